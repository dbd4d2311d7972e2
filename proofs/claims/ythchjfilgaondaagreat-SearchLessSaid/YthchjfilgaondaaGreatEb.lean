import Derived.Test.YthchjfilgaondaaGreatDa
import Derived.KernelRfl
import Derived.Test.YthchjfilgaondaaGreatEa
/- The closed function, evaluated by the kernel. -/
set_option maxRecDepth 1000000
set_option maxHeartbeats 40000000
set_option linter.unusedVariables false
set_option linter.unusedSectionVars false
set_option linter.unusedSimpArgs false
set_option linter.unnecessarySimpa false
namespace Go.Pl
open Go Go.Sl Go.Dm
section
variable {α:Type} (lt:α→α→Bool)
def C3o (x:α):List α→List α→List α
 | [],q=>x::q
 | y::rp,q=>if lt x y then C3o x rp (y::q) else rp.reverse ++ y::x::q
def isL:List α→List α→List α
 | s,[]=>s
 | s,x::r=>isL (C3o lt x s.reverse []) r
def B2H:List α→List α
 | []=>[]
 | x::r=>isL lt [x] r
theorem B4k (x:α):∀ (rp q:List α),(C3o lt x rp q).Perm (rp.reverse ++ x::q)
 | [],q=>List.Perm.refl _
 | y::rp,q=>by
  unfold C3o
  by_cases h:lt x y=true
  ·rw [if_pos h]
   refine (B4k x rp (y::q)).trans ?_
   rw [List.reverse_cons,List.append_assoc]
   exact List.Perm.append_left _ (List.Perm.swap y x q)
  ·rw [if_neg h,List.reverse_cons,List.append_assoc]
   exact List.Perm.refl _
theorem C9z (x:α) (rp q:List α):(C3o lt x rp q).length=rp.length + q.length + 1:=by
 rw [(B4k lt x rp q).length_eq]
 simp
 omega
theorem C4w:∀ (r s:List α),(isL lt s r).Perm (s ++ r)
 | [],s=>by simp [isL]
 | x::r,s=>by
  unfold isL
  refine (C4w r _).trans ?_
  have h:=(B4k lt x s.reverse []).append_right r
  rw [List.reverse_reverse] at h
  simpa using h
theorem B5L:∀ l:List α,(B2H lt l).Perm l
 | []=>List.Perm.refl _
 | x::r=>C4w lt r [x]
structure C8R (P:α→Prop) (g:List α×Int→Option ((List α×Int)⊕List α)) (M:Nat):Prop where
 stop:∀ x q,(∀ z ∈ x::q,P z)→(x::q).length≤M→g (x::q,(0:Int))=some (.inr (x::q))
 step:∀ p y x q,(∀ z ∈ p ++ y::x::q,P z)→(p ++ y::x::q).length≤M→g (p ++ y::x::q,((p.length + 1:Nat):Int))=if lt x y then some (.inl (p ++ x::y::q,(p.length:Int))) else some (.inr (p ++ y::x::q))
theorem C6R {P:α→Prop} {g:List α×Int→Option ((List α×Int)⊕List α)} {M:Nat} (hM:M≤1000) (h:C8R lt P g M) (x:α):∀ (rp q t:List α) (n:Nat),rp.length < n→(∀ z ∈ rp.reverse ++ x::(q ++ t),P z)→(rp.reverse ++ x::(q ++ t)).length≤M→iter g n (rp.reverse ++ x::(q ++ t),(rp.length:Int))=some (C3o lt x rp q ++ t)
 | [],q,t,n,hn,hP,hl=>by
  obtain ⟨m,rfl⟩:∃ m,n=m + 1:=⟨n - 1,by omega⟩
  have:=h.stop x (q ++ t) hP hl
  simp only [List.reverse_nil,List.nil_append,List.length_nil] at hP hl ⊢
  unfold iter
  rw [show ((0:Nat):Int)=0 from rfl,this]
  rfl
 | y::rp,q,t,n,hn,hP,hl=>by
  obtain ⟨m,rfl⟩:∃ m,n=m + 1:=⟨n - 1,by omega⟩
  rw [List.reverse_cons,List.append_assoc,List.singleton_append] at hP hl ⊢
  have hs:=h.step rp.reverse y x (q ++ t) hP hl
  rw [List.length_reverse] at hs
  unfold iter
  rw [List.length_cons,hs]
  unfold C3o
  by_cases hlt:lt x y=true
  ·rw [if_pos hlt,if_pos hlt]
   simp only [Oz]
   have hPm:(rp.reverse ++ x::(y::q ++ t)).Perm (rp.reverse ++ y::x::(q ++ t)):=List.Perm.append_left _ (List.Perm.swap y x _)
   exact C6R hM h x rp (y::q) t m (by rw [List.length_cons] at hn; omega) (fun z hz=>hP z (hPm.mem_iff.1 hz)) (by rw [hPm.length_eq]; exact hl)
  ·rw [if_neg hlt,if_neg hlt]
   simp only [Oz]
   congr 1
   simp
theorem B9g {P:α→Prop} {g g0:List α×Int→Option ((List α×Int)⊕List α)} {M:Nat} (hM:M≤1000) (h:C8R lt P g M) {N:Nat}
  (h0:∀ (d:List α) (i:Nat),d.length=N→i < N→g0 (d,(i:Int))=Option.bind (iter g FUEL (d,(i:Int))) fun d'=>some (.inl (d',((i + 1:Nat):Int))))
  (h1:∀ (d:List α),d.length=N→g0 (d,(N:Int))=some (.inr d)) (hN:N≤M):∀ (r s:List α) (n:Nat),r.length < n→(∀ z ∈ s ++ r,P z)→s.length + r.length=N→iter g0 n (s ++ r,(s.length:Int))=some (isL lt s r)
 | [],s,n,hn,hP,hl=>by
  obtain ⟨m,rfl⟩:∃ m,n=m + 1:=⟨n - 1,by omega⟩
  rw [List.append_nil]
  have hs:s.length=N:=by simpa using hl
  unfold iter
  rw [hs,h1 s hs]
  rfl
 | x::r,s,n,hn,hP,hl=>by
  obtain ⟨m,rfl⟩:∃ m,n=m + 1:=⟨n - 1,by omega⟩
  rw [List.length_cons] at hl hn
  unfold iter
  rw [h0 (s ++ x::r) s.length (by simp; omega) (by omega)]
  have e:=C6R lt hM h x s.reverse [] r FUEL (fuel' (by rw [List.length_reverse]; omega)) (by simpa using hP) (by simp; omega)
  rw [List.reverse_reverse,List.length_reverse,List.nil_append] at e
  rw [e,Oz]
  simp only [Oz]
  have hp:=B4k lt x s.reverse []
  rw [List.reverse_reverse] at hp
  have hlen:(C3o lt x s.reverse []).length=s.length + 1:=by rw [C9z]; simp
  rw [show ((s.length + 1:Nat):Int)=((C3o lt x s.reverse []).length:Int) by rw [hlen]]
  unfold isL
  refine B9g hM h h0 h1 hN r _ m (by omega) (fun z hz=>?_) (by rw [hlen]; omega)
  apply hP
  rcases List.mem_append.1 hz with hz | hz
  ·have:=hp.mem_iff.1 hz
   rcases List.mem_append.1 this with hz | hz
   ·exact List.mem_append_left _ hz
   ·rcases List.mem_cons.1 hz with rfl | hz
    ·exact List.mem_append_right _ (List.mem_cons_self ..)
    ·cases hz
  ·exact List.mem_append_right _ (List.mem_cons_of_mem _ hz)
end
section
variable {α:Type} {p q:List α} {x y:α}
theorem at2:H5 (p ++ y::x::q) ((p.length + 1:Nat):Int)=some x:=K9 (by rw [List.getElem?_append_right (by omega),Nat.add_sub_cancel_left]; rfl)
theorem at1:H5 (p ++ y::x::q) (p.length:Int)=some y:=K9 (by rw [List.getElem?_append_right (by omega),Nat.sub_self]; rfl)
theorem set2:(p ++ y::x::q).set (p.length + 1) y=p ++ y::y::q:=by rw [List.set_append_right _ _ (by omega),Nat.add_sub_cancel_left]; rfl
theorem set1:(p ++ y::y::q).set p.length x=p ++ x::y::q:=by rw [List.set_append_right _ _ (by omega),Nat.sub_self]; rfl
theorem C5x {n:Nat} (h:n≤1000):J8 (((n + 1:Nat):Int) - (1:Int))=some (n:Int):=by rw [A0N (by omega) (by omega)]; congr 1; omega
end
theorem D2Y (x y:Int):B0s x y=some (decide (x < y)):=by
 have e:∀ z,A1p z=some false:=fun z=>by
  unfold A1p
  rw [Dt rfl]
  rfl
 unfold B0s
 simp only [e,Oz]
 cases decide (x < y) <;> rfl
theorem C9Y:C8R (fun a b:Int=>decide (a < b)) (fun _=>True) (A4C 0) 1000:=by
 refine ⟨fun x q _ _=>?_,fun p y x q _ hl=>?_⟩
 ·simp [A4C,B1W]
 ·have hp:p.length≤1000:=by simp at hl; omega
  simp only [A4C,B1W,Dt (show (0:Int) < ((p.length + 1:Nat):Int) by omega),Cy,at2,at1,C5x hp,Oz,D2Y,Int.toNat_natCast,set2,set1]
  cases decide (x < y) <;> rfl
theorem D0a:((List.range 13).all fun n=>decide ((bits_Len (n:Int)).isSome))=true:=by kernel_rfl
theorem C7U {n:Nat} (h:n≤12):∃ k,bits_Len (n:Int)=some k:=Option.isSome_iff_exists.1 (of_decide_eq_true (List.all_eq_true.1 D0a n (List.mem_range.2 (by omega))))
theorem D1d {n:Nat} (h:n≤1000):A0P .u64 (n:Int)=some (n:Int):=by
 unfold A0P
 rw [Dt (wrap_u64 (by omega) (by omega))]
 rfl
theorem rf1:∃ m,A6c=m + 1:=⟨A6c - 1,by decide⟩
theorem fu1:∃ m,FUEL=m + 1:=⟨FUEL - 1,by have:=fuel' (n:=1) (by omega); omega⟩
theorem C6v {σ ρ:Type} {f:σ→Option (σ⊕ρ)} {s:σ} {r:ρ} (h:f s=some (.inr r)):iter f FUEL s=some r:=by
 obtain ⟨m,hm⟩:=fu1
 rw [hm]
 unfold iter
 rw [h]
 rfl
theorem C5D {l:List Int} (h:l.length≤12):B2d l=some (B2H (fun a b:Int=>decide (a < b)) l):=by
 obtain ⟨k,hk⟩:=C7U h
 obtain ⟨m,hm⟩:=rf1
 obtain ⟨m',hm'⟩:=fu1
 have key:B3Y l (0:Int) (l.length:Int)=some (B2H (fun a b:Int=>decide (a < b)) l):=by
  unfold B3Y
  rw [show J8 ((0:Int) + (1:Int))=some (1:Int) from rfl,Oz]
  cases l with
  | nil=>
   rw [hm']
   rfl
  | cons x r=>
   have:=B9g (fun a b:Int=>decide (a < b)) (M:=1000) (by omega) C9Y (g0:=A4I 0 ((x::r).length:Int)) (N:=(x::r).length) (fun d i hd hi=>by
    simp only [A4I,Dt (show (i:Int) < ((x::r).length:Int) by omega),Cy]
    cases iter (A4C 0) FUEL (d,(i:Int)) with
    | none=>rfl
    | some d'=>simp only [Oz,I4 (show i < 9223372036854775807 by omega)]) (fun d hd=>by simp [A4I]) (by omega) r [x] FUEL (fuel' (by rw [List.length_cons] at h; omega)) (fun _ _=>trivial) (by simp; omega)
   rw [List.singleton_append] at this
   have this':iter (A4I 0 ((x::r).length:Int)) FUEL (x::r,(1:Int))=_:=this
   rw [this']
   rfl
 unfold B2d
 rw [D1d (by omega),Oz,hk,Oz,hm]
 have e:∀ (d:List Int) (a b:Int),B7G (m + 1) d a b k=Option.bind (iter (A8S d a b k) FUEL ()) fun p=>some p:=fun _ _ _=>rfl
 rw [e,C6v (r:=B2H (fun a b:Int=>decide (a < b)) l) (by unfold A8S; rw [A0N (by omega) (by omega),Oz,Dt (by omega),Cy,key]; rfl)]
 rfl
theorem C8W {c:List Int→List Int→Int} {cmp:List Int→List Int→Option Int} {P:List Int→Prop} (hc:∀ a b,P a→P b→cmp a b=some (c a b)):C8R (fun a b=>decide (c a b < 0)) P (A1w 0 cmp) 1000:=by
 refine ⟨fun x q _ _=>?_,fun p y x q hP hl=>?_⟩
 ·simp [A1w,A7i]
 ·have hp:p.length≤1000:=by simp at hl; omega
  have hx:P x:=hP x (by simp)
  have hy:P y:=hP y (by simp)
  simp only [A1w,A7i,Dt (show (0:Int) < ((p.length + 1:Nat):Int) by omega),Cy,at2,at1,C5x hp,Oz,hc x y hx hy,Int.toNat_natCast,set2,set1]
  cases decide (c x y < 0) <;> rfl
theorem C3Z {c:List Int→List Int→Int} {cmp:List Int→List Int→Option Int} {P:List Int→Prop} (hc:∀ a b,P a→P b→cmp a b=some (c a b)) {l:List (List Int)} (h:l.length≤12) (hl:∀ x ∈ l,P x):A5y l cmp=some (B2H (fun a b=>decide (c a b < 0)) l):=by
 obtain ⟨k,hk⟩:=C7U h
 obtain ⟨m,hm⟩:=rf1
 obtain ⟨m',hm'⟩:=fu1
 have key:A7L l (0:Int) (l.length:Int) cmp=some (B2H (fun a b=>decide (c a b < 0)) l):=by
  unfold A7L
  rw [show J8 ((0:Int) + (1:Int))=some (1:Int) from rfl,Oz]
  cases l with
  | nil=>
   rw [hm']
   rfl
  | cons x r=>
   have:=B9g (fun a b=>decide (c a b < 0)) (M:=1000) (by omega) (C8W hc) (g0:=A1u 0 ((x::r).length:Int) cmp) (N:=(x::r).length) (fun d i hd hi=>by
    simp only [A1u,Dt (show (i:Int) < ((x::r).length:Int) by omega),Cy]
    cases iter (A1w 0 cmp) FUEL (d,(i:Int)) with
    | none=>rfl
    | some d'=>simp only [Oz,I4 (show i < 9223372036854775807 by omega)]) (fun d hd=>by simp [A1u]) (by omega) r [x] FUEL (fuel' (by rw [List.length_cons] at h; omega)) (by simpa using hl) (by simp; omega)
   rw [List.singleton_append] at this
   have this':iter (A1u 0 ((x::r).length:Int) cmp) FUEL (x::r,(1:Int))=_:=this
   rw [this']
   rfl
 unfold A5y
 rw [D1d (by omega),Oz,hk,Oz,hm]
 have e:∀ (d:List (List Int)) (a b:Int),B1c (m + 1) d a b k cmp=Option.bind (iter (A4E d a b k cmp) FUEL ()) fun p=>some p:=fun _ _ _=>rfl
 rw [e,C6v (r:=B2H (fun a b=>decide (c a b < 0)) l) (by unfold A4E; rw [A0N (by omega) (by omega),Oz,Dt (by omega),Cy,key]; rfl)]
 rfl
end Go.Pl
namespace Go.Pl
open Go Go.Sl Go.Dm
def PmL (n:Nat) (u:List Int):Prop:=u.length=n∧∀ x ∈ u,0≤x∧x < n
def C9w {α:Type}:List (Option α)→Option (List α)
 | []=>some []
 | x::l=>Option.bind x fun y=>Option.bind (C9w l) fun r=>some (y::r)
def C5k (t:D5):Option (List (List Int)):=
 Option.bind (Y0 t.Q4) fun (lay,_)=>
 Option.bind (lay.C3k t.fA t.fB) fun fs=>C9w (fs.map fun f=>C9w ((List.range (M6 t).toNat).map fun (k:Nat)=>f (k:Int)))
def pmB (n:Nat) (u:List Int):Bool:=decide (u.length=n) && u.all fun x=>decide (0≤x) && decide (x < n)
theorem D2l {n:Nat} {u:List Int} (h:pmB n u=true):PmL n u:=by
 unfold pmB at h
 simp only [Bool.and_eq_true,decide_eq_true_eq,List.all_eq_true] at h
 exact h
def D3e (i x:Nat):Bool:=match A2X (i:Int) (x:Int) with
 | none=>false
 | some t=>match C5k t with
  | none=>false
  | some cs=>decide (cs.length≤12) && cs.all (pmB (M6 t).toNat)
theorem tcs:(List.range 3).all (fun i=>(List.range 256).all fun x=>D3e i x)=true:=by kernel_rfl
theorem C9H {ts:List D5} (h:MTs ts) {t:D5} (ht:t ∈ ts):∃ cs,C5k t=some cs∧cs.length≤12∧∀ u ∈ cs,PmL (M6 t).toNat u:=by
 obtain ⟨i,hi,rfl⟩:=List.getElem_of_mem ht
 have hx:=Lg hi
 obtain ⟨x,hx',hl⟩:=h.x i _ hx
 have hlen:=h.len
 have:=List.all_eq_true.1 (List.all_eq_true.1 tcs i (List.mem_range.2 (by omega))) x (List.mem_range.2 hx')
 unfold D3e at this
 rw [hl] at this
 simp only at this
 cases hc:C5k ts[i] with
 | none=>rw [hc] at this; cases this
 | some cs=>
  rw [hc] at this
  simp only [Bool.and_eq_true,decide_eq_true_eq,List.all_eq_true] at this
  exact ⟨cs,rfl,this.1,fun u hu=>D2l (this.2 u hu)⟩
theorem B9W {α:Type}:∀ {l:List (Option α)} {r:List α},C9w l=some r→r.length=l.length∧∀ (i:Nat) (o:Option α),l[i]?=some o→∃ y,o=some y∧r[i]?=some y
 | [],r,h=>by cases h; exact ⟨rfl,fun i o hi=>by simp at hi⟩
 | x::l,r,h=>by
  obtain ⟨y,hy,h⟩:=bnd h
  obtain ⟨r',hr,h⟩:=bnd h
  cases h
  obtain ⟨h1,h2⟩:=B9W hr
  refine ⟨by simp [h1],fun i o hi=>?_⟩
  cases i with
  | zero=>simp at hi; subst hi; exact ⟨y,hy,rfl⟩
  | succ i=>simpa using h2 i o (by simpa using hi)
theorem D2G {f:Int→Option Int} {n:Nat} (hn:n≤24) {u:List Int} (h:C9w ((List.range n).map fun (k:Nat)=>f (k:Int))=some u):iter (A1a f (List.replicate n (0:Int))) FUEL ((0:Int),List.replicate n (0:Int))=some u:=by
 obtain ⟨h1,h2⟩:=B9W h
 rw [List.length_map,List.length_range] at h1
 obtain ⟨r,hr,hl,hq⟩:=M8 (f:=A1a f (List.replicate n (0:Int))) (fun s=>∃ k:Nat,s.1=(k:Int)∧k≤n∧s.2.length=n∧∀ q:Nat,q < k→s.2[q]?=u[q]?) (fun s=>n - s.1.toNat) (fun r=>r.length=n∧∀ q:Nat,q < n→r[q]?=u[q]?) (fun s hs=>by
  obtain ⟨i,p⟩:=s
  obtain ⟨k,rfl,hk,hl,hp⟩:=hs
  simp only at hl hp
  simp only [A1a,List.length_replicate]
  by_cases hlt:k < n
  ·left
   obtain ⟨y,hy,hu⟩:=h2 k (f (k:Int)) (by simp [hlt])
   rw [Dt (by omega),Cy,hy,Oz,X8 (by omega),Oz,Oz,I4 (by omega)]
   refine ⟨_,rfl,⟨k + 1,rfl,by omega,by simp [hl],fun q hq=>?_⟩,by simp; omega⟩
   simp only [Int.toNat_natCast]
   by_cases hqk:q=k
   ·subst hqk; rw [List.getElem?_set_self (by omega),hu]
   ·rw [List.getElem?_set_ne (by omega)]; exact hp q (by omega)
  ·right
   rw [Df (by omega)]
   exact ⟨_,rfl,hl,fun q hq=>hp q (by omega)⟩) FUEL ((0:Int),List.replicate n (0:Int)) ⟨0,rfl,Nat.zero_le _,by simp,fun q hq=>by omega⟩ (fuel' (by simp; omega))
 rw [hr]
 congr 1
 refine List.ext_getElem? fun q=>?_
 by_cases hqn:q < n
 ·exact hq q hqn
 ·rw [List.getElem?_eq_none (by omega),List.getElem?_eq_none (by omega)]
theorem C5s {t:D5} (ht:M6 t≤8) {cs:List (List Int)} (hc:C5k t=some cs) (hl:cs.length≤12) {σ:Type} (yield:σ→List Int→Option (σ×Bool)) (Y:σ→List Int→σ) (I:σ→Nat→Prop)
  (hY:∀ s i u,cs[i]?=some u→I s i→yield s u=some (Y s u,true)∧I (Y s u) (i + 1)) {s:σ} (h0:I s 0):A3M yield s t=some (cs.foldl Y s):=by
 unfold C5k at hc
 obtain ⟨⟨lay,b⟩,h1,hc⟩:=bnd hc
 obtain ⟨fs,h2,hc⟩:=bnd hc
 obtain ⟨h3,h4⟩:=B9W hc
 rw [List.length_map] at h3
 have hs0:=Z8 t
 have hmk:mkL (M6 t) (0:Int)=some (List.replicate (M6 t).toNat (0:Int)):=by
  obtain ⟨n,hn⟩:=Zn hs0.1
  rw [hn]
  have:mkL (n:Int) (0:Int)=(bif Nat.ble n 1073741824 then some (List.replicate n (0:Int)) else none):=rfl
  rw [this,Nat.ble_eq_true_of_le (by omega)]
  rfl
 unfold A3M
 rw [h1,Oz]
 simp only
 rw [A2c,Oz,h2,Oz]
 have key:=C0w (f:=A0C yield (M6 t) fs) (fun (s:σ) (i:Nat)=>(s,(i:Int))) Sum.inl (N:=fs.length) (fun s i=>match cs[i]? with | some u=>Y s u | none=>s) I h0 (fun s i hi hI=>by
  obtain ⟨u,hu,hcu⟩:=h4 i _ (by rw [List.getElem?_map,Lg hi]; rfl)
  obtain ⟨y1,y2⟩:=hY s i u hcu hI
  rw [hcu]
  simp only [A0C]
  rw [Dt (by omega),Cy,X8 hi,Oz,hmk,Oz,D2G (by omega) hu,Oz,y1,Oz]
  simp only [Bool.not_true,Cn]
  rw [I4 (by omega)]
  exact ⟨rfl,y2⟩) (fun s hs=>by simp [A0C]) (fuel' (n:=fs.length) (by omega))
 have key':iter (A0C yield (M6 t) fs) FUEL (s,(0:Int))=_:=key
 rw [key',Oz]
 simp only
 have e:∀ (l:List (List Int)) (m:Nat) (s:σ),(∀ i,l[i]?=cs[m + i]?)→(List.range' m l.length).foldl (fun s i=>match cs[i]? with | some u=>Y s u | none=>s) s=l.foldl Y s:=by
  intro l
  induction l with
  | nil=>intro m s _; rfl
  | cons u l ih=>
   intro m s hm
   rw [List.length_cons,List.range'_succ,List.foldl_cons,List.foldl_cons]
   have h0:=hm 0
   simp only [List.getElem?_cons_zero,Nat.add_zero] at h0
   rw [←h0]
   exact ih (m + 1) (Y s u) fun i=>by have:=hm (i + 1); rw [List.getElem?_cons_succ] at this; rw [this]; congr 1; omega
 rw [List.range_eq_range',←h3,e cs 0 s (fun i=>by rw [Nat.zero_add])]
theorem C9r {t:D5} (ht:M6 t ≠ 0) (ho:t.A2M.length≤maxLen) {u:List Int} (hu:PmL (M6 t).toNat u):∃ b,A1F t u=some b:=by
 have hs:=Z8 t
 obtain ⟨hl,hb⟩:=hu
 have inner:∀ k:Nat,k < u.length→∃ r,iter (A4Z t u (k:Int)) FUEL (0:Int)=some r:=by
  intro k hk
  obtain ⟨r,hr,_⟩:=M8 (f:=A4Z t u (k:Int)) (fun s=>∃ m:Nat,s=(m:Int)∧m≤k) (fun s=>k - s.toNat) (fun _=>True) (fun s hs'=>by
   obtain ⟨m,rfl,hm⟩:=hs'
   simp only [A4Z]
   by_cases hlt:m < k
   ·have bk:=hb _ (List.getElem_mem hk)
    have bm:=hb _ (List.getElem_mem (show m < u.length by omega))
    obtain ⟨b1,e1⟩:=B4o ht (x:=(k:Int)) (y:=(m:Int)) (by omega) (by omega) (by omega) (by omega)
    obtain ⟨b2,e2⟩:=B4o ht (x:=u[k]) (y:=u[m]) bk.1 (by omega) bm.1 (by omega)
    obtain ⟨b3,e3⟩:=B4m ht (x:=(k:Int)) (y:=(m:Int)) (by omega) (by omega) (by omega) (by omega)
    obtain ⟨b4,e4⟩:=B4m ht (x:=u[k]) (y:=u[m]) bk.1 (by omega) bm.1 (by omega)
    rw [Dt (by omega),Cy]
    simp only [B5l,X8 hk,X8 (show m < u.length by omega),Oz,e1,e2,e3,e4,I4 (show m < 9223372036854775807 by omega)]
    cases (b1 == b2) with
    | false=>right; exact ⟨_,rfl,trivial⟩
    | true=>
     cases (b3 == b4) with
     | false=>right; exact ⟨_,rfl,trivial⟩
     | true=>left; exact ⟨_,rfl,⟨m + 1,rfl,by omega⟩,by omega⟩
   ·right
    rw [Df (by omega)]
    exact ⟨_,rfl,trivial⟩) FUEL (0:Int) ⟨0,rfl,Nat.zero_le _⟩ (fuel' (by simp; omega))
  exact ⟨r,hr⟩
 obtain ⟨r,hr,_⟩:=M8 (f:=A7I t u) (fun s=>∃ k:Nat,s=(k:Int)∧k≤u.length) (fun s=>u.length - s.toNat) (fun _=>True) (fun s hs'=>by
  obtain ⟨k,rfl,hk⟩:=hs'
  simp only [A7I]
  by_cases hlt:k < u.length
  ·rw [Dt (by omega),Cy]
   obtain ⟨o,ho'⟩:=inner k hlt
   simp only [X8 hlt,Oz,B7M ho,ho',I4 (show k < 9223372036854775807 by omega)]
   cases (t.A2M.any fun y=>decide ((k:Int)=y)) == (t.A2M.any fun y=>decide (u[k]=y)) with
   | false=>right; exact ⟨_,rfl,trivial⟩
   | true=>
    cases o with
    | inl _=>left; exact ⟨_,rfl,⟨k + 1,rfl,by omega⟩,by omega⟩
    | inr b=>right; exact ⟨_,rfl,trivial⟩
  ·right
   rw [Df (by omega)]
   exact ⟨_,rfl,trivial⟩) FUEL (0:Int) ⟨0,rfl,Nat.zero_le _⟩ (fuel' (by simp; omega))
 unfold A1F
 rw [hr]
 cases r with
 | inl _=>exact ⟨_,rfl⟩
 | inr b=>exact ⟨b,rfl⟩
theorem D0W {l:List Int} (hl:l.length≤1000) {f:Int→Option Bool} {g:Int→Bool} (hf:∀ x ∈ l,f x=some (g x)):A0v l f=some (l.any g):=by
 have key:=A1G (f:=A1M l f) l (fun (i:Nat) x=>if g x then some (.inr (i:Int)) else none) (.inl ():Unit⊕Int) (fuel' (n:=l.length) (by omega)) (fun i x hi=>by
  have hlt:=Q6 hi
  simp only [A1M,Dt (show (i:Int) < (l.length:Int) by omega),Cy,K9 hi,Oz,hf x (A0T hi),I4 (show i < 9223372036854775807 by omega)]
  cases g x <;> rfl) (by simp [A1M])
 unfold A0v A8G
 rw [key,Oz,B8s]
 cases ha:l.any g with
 | true=>
  have:=(B1q g l 0).mpr ha
  simp only [if_true,Oz]
  rw [Dt this]
 | false=>rfl
theorem C8s {l:List Int} (hl:l.length≤1000):∃ r,A7C l=some r∧(∀ x ∈ r,x ∈ l)∧r.length≤l.length:=by
 unfold A7C
 by_cases h2:(l.length:Int) < 2
 ·rw [Dt h2]; exact ⟨l,rfl,fun _ h=>h,Nat.le_refl _⟩
 ·rw [Df h2,Cn]
  obtain ⟨r,hr,hq⟩:=M8 (f:=A4q l) (fun s=>∃ k:Nat,s=(k:Int)∧1≤k∧k≤l.length) (fun s=>l.length - s.toNat) (fun r=>r=.inl ()∨∃ q,r=.inr q∧(∀ x ∈ q,x ∈ l)∧q.length≤l.length) (fun s hs=>by
   obtain ⟨k,rfl,h1,hk⟩:=hs
   simp only [A4q]
   by_cases hlt:k < l.length
   ·rw [Dt (by omega),Cy]
    obtain ⟨m,rfl⟩:∃ m,k=m + 1:=⟨k - 1,by omega⟩
    simp only [B1C,X8 hlt,X8 (show m < l.length by omega),C5x (show m≤1000 by omega),Oz]
    cases decide (l[m + 1]=l[m]) with
    | false=>
     left
     rw [Cn,I4 (by omega)]
     exact ⟨_,rfl,⟨m + 1 + 1,rfl,by omega,by omega⟩,by simp; omega⟩
    | true=>
     right
     have bb:∀ a:Nat,a≤l.length→bdV (a:Int) (l.length:Int) (l.length:Int)=some ():=fun a ha=>by unfold bdV; rw [Dt (by omega),Dt (by omega),Dt (by omega)]; rfl
     rw [Cy,bb _ hk,Oz]
     obtain ⟨⟨d,w⟩,hw,hd,a,rfl,ha,hm⟩:=M8 (f:=A4s l ((m + 1:Nat):Int)) (fun s=>s.1.length=l.length∧(∀ x ∈ s.1,x ∈ l)∧∃ a b:Nat,s.2.1=(a:Int)∧s.2.2=(b:Int)∧1≤b∧m + 1 + b≤l.length∧a + 1≤m + 1 + b) (fun s=>l.length - s.2.2.toNat) (fun r=>r.1.length=l.length∧∃ a:Nat,r.2=(a:Int)∧a≤l.length∧∀ x ∈ r.1,x ∈ l) (fun s hs=>by
      obtain ⟨d,a',b'⟩:=s
      obtain ⟨hd,hmem,a,b,rfl,rfl,hb1,hb,hab⟩:=hs
      simp only at hd hmem
      simp only [A4s,Int.toNat_natCast]
      by_cases hlt2:b < l.length - (m + 1)
      ·left
       rw [Dt (by omega),Cy]
       obtain ⟨b0,rfl⟩:∃ b0,b=b0 + 1:=⟨b - 1,by omega⟩
       have gv:∀ q:Nat,m + 1 + q < l.length→∃ y,B8U d ((m + 1:Nat):Int) (l.length:Int) (q:Int)=some y∧y ∈ l:=fun q hq=>by
        unfold B8U
        rw [Dt (by omega),Dt (by omega),Dt (by omega)]
        have hlt':m + 1 + q < d.length:=by omega
        refine ⟨d[m + 1 + q],?_,hmem _ (List.getElem_mem hlt')⟩
        have:=X8 hlt'
        rw [show ((m + 1 + q:Nat):Int)=((m + 1:Nat):Int) + (q:Int) by omega] at this
        exact this
       obtain ⟨y1,e1,m1⟩:=gv (b0 + 1) (by omega)
       obtain ⟨y2,e2,m2⟩:=gv b0 (by omega)
       simp only [B1F,e1,e2,C5x (show b0≤1000 by omega),Oz]
       cases decide (y1=y2) with
       | true=>
        simp only [Bool.not_true,Cn]
        rw [I4 (by omega)]
        exact ⟨_,rfl,⟨hd,hmem,a,b0 + 1 + 1,rfl,rfl,by omega,by omega,by omega⟩,by simp; omega⟩
       | false=>
        simp only [Bool.not_false,Cy]
        simp only [X8 (show a < d.length by omega),Oz,I4 (show a < 9223372036854775807 by omega),I4 (show b0 + 1 < 9223372036854775807 by omega)]
        refine ⟨_,rfl,⟨by simp [hd],fun x hx=>?_,a + 1,b0 + 1 + 1,rfl,rfl,by omega,by omega,by omega⟩,by simp; omega⟩
        rcases List.mem_or_eq_of_mem_set hx with h | h
        ·exact hmem x h
        ·rw [h]; exact m1
      ·right
       rw [Df (by omega),Cn]
       exact ⟨_,rfl,hd,a,rfl,by omega,hmem⟩) FUEL (l,((m + 1:Nat):Int),(1:Int)) ⟨rfl,fun _ h=>h,m + 1,1,rfl,rfl,by omega,by omega,by omega⟩ (fuel' (by simp; omega))
     simp only at hd
     rw [hw,Oz]
     simp only
     rw [hd,bb a ha]
     simp only [Oz]
     have hpl:(A3k d (a:Int).toNat (List.replicate ((l.length:Int).toNat - (a:Int).toNat) (0:Int)))=d.take a ++ List.replicate (l.length - a) 0:=by
      unfold A3k
      simp only [Int.toNat_natCast,List.length_replicate]
      rw [List.drop_eq_nil_of_le (by omega),List.append_nil]
     rw [hpl]
     have hsb:sbL (d.take a ++ List.replicate (l.length - a) (0:Int)) 0 (a:Int)=some (d.take a):=by
      have:sbL (d.take a ++ List.replicate (l.length - a) (0:Int)) 0 (a:Int)=(bif Nat.ble 0 a && Nat.ble a (d.take a ++ List.replicate (l.length - a) (0:Int)).length then some (Sl.sub (d.take a ++ List.replicate (l.length - a) (0:Int)) 0 a) else none):=rfl
      rw [this,Nat.ble_eq_true_of_le (Nat.zero_le _),Nat.ble_eq_true_of_le (by simp; omega)]
      simp only [Bool.and_self,Cy,Sl.sub,List.drop_zero]
      rw [List.take_left' (by simp; omega)]
     rw [hsb]
     exact ⟨_,rfl,.inr ⟨_,rfl,fun x hx=>hm x (List.mem_of_mem_take hx),by simp; omega⟩⟩
   ·right
    rw [Df (by omega)]
    exact ⟨_,rfl,.inl rfl⟩) FUEL (1:Int) ⟨1,rfl,by omega,by omega⟩ (fuel' (by simp; omega))
  rw [hr]
  rcases hq with rfl | ⟨q,rfl,hq⟩
  ·exact ⟨l,rfl,fun _ h=>h,Nat.le_refl _⟩
  ·exact ⟨q,rfl,hq⟩
end Go.Pl
namespace Go.Pl
open Go Go.Sl Go.Dm
theorem D2V (z:Int):A1p z=some false:=by
 unfold A1p
 rw [Dt rfl]
 rfl
def C9b (x y:Int):Int:=if x < y then -1 else if y < x then 1 else 0
theorem D0g (x y:Int):A6p x y=some (C9b x y):=by
 unfold A6p C9b
 simp only [D2V,Oz,Cn]
 by_cases h:x < y
 ·rw [Dt h,if_pos h]; rfl
 ·rw [Df h,if_neg h,Cn]
  by_cases h':y < x
  ·rw [Dt h',if_pos h']; rfl
  ·rw [Df h',if_neg h']; rfl
def cmpL:List Int→List Int→Int
 | [],[]=>0
 | [],_::_=>-1
 | _::_,[]=>1
 | x::a,y::b=>if C9b x y ≠ 0 then C9b x y else cmpL a b
theorem cmpL_eq {a b:List Int} (ha:a.length≤1000):A3B a b=some (cmpL a b):=by
 have key:∀ (n k:Nat),k≤a.length→k≤b.length→a.length - k < n→∃ r,iter (A2K a b) n (k:Int)=some r∧(match r with | .inl _=>cmpL (a.drop k) (b.drop k)=(if a.length < b.length then -1 else 0) | .inr p=>cmpL (a.drop k) (b.drop k)=p):=by
  intro n
  induction n with
  | zero=>intro k _ _ h; omega
  | succ n ih=>
   intro k hk hkb hn
   unfold iter
   simp only [A2K]
   by_cases hlt:k < a.length
   ·rw [Dt (by omega),Cy,X8 hlt,Oz]
    by_cases hb:k < b.length
    ·rw [Df (by omega),Cn,X8 hb,Oz,D0g,Oz]
     rw [List.drop_eq_getElem_cons hlt,List.drop_eq_getElem_cons hb]
     unfold cmpL
     by_cases hq:C9b a[k] b[k]=0
     ·rw [Dt hq]
      simp only [Bool.not_true,Cn]
      rw [I4 (by omega)]
      simp only [Oz,hq,ne_eq,not_true_eq_false,if_false]
      exact ih (k + 1) (by omega) (by omega) (by omega)
     ·rw [Df hq]
      exact ⟨_,rfl,by simp [hq]⟩
    ·rw [Dt (by omega)]
     refine ⟨_,rfl,?_⟩
     rw [List.drop_eq_getElem_cons hlt,List.drop_eq_nil_of_le (show b.length≤k by omega)]
     rfl
   ·rw [Df (by omega)]
    refine ⟨_,rfl,?_⟩
    rw [List.drop_eq_nil_of_le (show a.length≤k by omega)]
    simp only
    by_cases hb:k < b.length
    ·rw [List.drop_eq_getElem_cons hb,if_pos (by omega)]; rfl
    ·rw [List.drop_eq_nil_of_le (show b.length≤k by omega),if_neg (by omega)]; rfl
 obtain ⟨r,hr,hq⟩:=key FUEL 0 (Nat.zero_le _) (Nat.zero_le _) (fuel' (by omega))
 unfold A3B
 have hr':iter (A2K a b) FUEL (0:Int)=some r:=hr
 rw [hr',Oz]
 rw [List.drop_zero,List.drop_zero] at hq
 cases r with
 | inr p=>simp only at hq ⊢; rw [hq]
 | inl _=>
  simp only at hq ⊢
  rw [hq]
  by_cases h:a.length < b.length
  ·rw [Dt (by omega),if_pos h]; rfl
  ·rw [Df (by omega),if_neg h]; rfl
theorem eqL {a b:List Int} (ha:a.length≤1000):∃ q,A2S a b=some q:=by
 unfold A2S
 by_cases hl:(a.length:Int)=(b.length:Int)
 ·rw [Dt hl]
  simp only [Bool.not_true,Cn]
  obtain ⟨r,hr,_⟩:=M8 (f:=A6n a b) (fun s=>∃ k:Nat,s=(k:Int)∧k≤a.length) (fun s=>a.length - s.toNat) (fun _=>True) (fun s hs=>by
   obtain ⟨k,rfl,hk⟩:=hs
   simp only [A6n]
   by_cases hlt:k < a.length
   ·rw [Dt (by omega),Cy,X8 hlt,Oz,X8 (show k < b.length by omega),Oz]
    cases decide (a[k]=b[k]) with
    | false=>right; exact ⟨_,rfl,trivial⟩
    | true=>
     left
     simp only [Bool.not_true,Cn]
     rw [I4 (by omega)]
     exact ⟨_,rfl,⟨k + 1,rfl,by omega⟩,by omega⟩
   ·right
    rw [Df (by omega)]
    exact ⟨_,rfl,trivial⟩) FUEL (0:Int) ⟨0,rfl,Nat.zero_le _⟩ (fuel' (by simp; omega))
  rw [hr]
  cases r with
  | inl _=>exact ⟨_,rfl⟩
  | inr q=>exact ⟨q,rfl⟩
 ·rw [Df hl]; exact ⟨_,rfl⟩
theorem C8q {l:List (List Int)} (hl:l.length≤1000) (hm:∀ x ∈ l,x.length≤1000):∃ r,A2Y l A2S=some r∧(∀ x ∈ r,x ∈ l)∧r.length≤l.length:=by
 unfold A2Y
 by_cases h2:(l.length:Int) < 2
 ·rw [Dt h2]; exact ⟨l,rfl,fun _ h=>h,Nat.le_refl _⟩
 ·rw [Df h2,Cn]
  obtain ⟨r,hr,hq⟩:=M8 (f:=A1Q l A2S) (fun s=>∃ k:Nat,s=(k:Int)∧1≤k∧k≤l.length) (fun s=>l.length - s.toNat) (fun r=>r=.inl ()∨∃ q,r=.inr q∧(∀ x ∈ q,x ∈ l)∧q.length≤l.length) (fun s hs=>by
   obtain ⟨k,rfl,h1,hk⟩:=hs
   simp only [A1Q]
   by_cases hlt:k < l.length
   ·rw [Dt (by omega),Cy]
    obtain ⟨m,rfl⟩:∃ m,k=m + 1:=⟨k - 1,by omega⟩
    obtain ⟨b,eb⟩:=eqL (a:=l[m + 1]) (b:=l[m]) (hm _ (List.getElem_mem hlt))
    simp only [X8 hlt,X8 (show m < l.length by omega),C5x (show m≤1000 by omega),Oz,eb]
    cases b with
    | false=>
     left
     rw [Cn,I4 (by omega)]
     exact ⟨_,rfl,⟨m + 1 + 1,rfl,by omega,by omega⟩,by simp; omega⟩
    | true=>
     right
     have bb:∀ a:Nat,a≤l.length→bdV (a:Int) (l.length:Int) (l.length:Int)=some ():=fun a ha=>by unfold bdV; rw [Dt (by omega),Dt (by omega),Dt (by omega)]; rfl
     rw [Cy]
     unfold A7e
     rw [bb _ hk,Oz]
     obtain ⟨⟨d,w⟩,hw,hd,a,rfl,ha,hmm⟩:=M8 (f:=A1P l A2S ((m + 1:Nat):Int)) (fun s=>s.1.length=l.length∧(∀ x ∈ s.1,x ∈ l)∧∃ a b:Nat,s.2.1=(a:Int)∧s.2.2=(b:Int)∧1≤b∧m + 1 + b≤l.length∧a + 1≤m + 1 + b) (fun s=>l.length - s.2.2.toNat) (fun r=>r.1.length=l.length∧∃ a:Nat,r.2=(a:Int)∧a≤l.length∧∀ x ∈ r.1,x ∈ l) (fun s hs=>by
      obtain ⟨d,a',b'⟩:=s
      obtain ⟨hd,hmem,a,b,rfl,rfl,hb1,hb,hab⟩:=hs
      simp only at hd hmem
      simp only [A1P,Int.toNat_natCast]
      by_cases hlt2:b < l.length - (m + 1)
      ·left
       rw [Dt (by omega),Cy]
       obtain ⟨b0,rfl⟩:∃ b0,b=b0 + 1:=⟨b - 1,by omega⟩
       have gv:∀ q:Nat,m + 1 + q < l.length→∃ y,B8U d ((m + 1:Nat):Int) (l.length:Int) (q:Int)=some y∧y ∈ l:=fun q hq=>by
        unfold B8U
        rw [Dt (by omega),Dt (by omega),Dt (by omega)]
        have hlt':m + 1 + q < d.length:=by omega
        refine ⟨d[m + 1 + q],?_,hmem _ (List.getElem_mem hlt')⟩
        have:=X8 hlt'
        rw [show ((m + 1 + q:Nat):Int)=((m + 1:Nat):Int) + (q:Int) by omega] at this
        exact this
       obtain ⟨y1,e1,m1⟩:=gv (b0 + 1) (by omega)
       obtain ⟨y2,e2,m2⟩:=gv b0 (by omega)
       obtain ⟨b,eb⟩:=eqL (a:=y1) (b:=y2) (hm _ m1)
       simp only [A7c,e1,e2,C5x (show b0≤1000 by omega),Oz,eb]
       cases b with
       | true=>
        simp only [Bool.not_true,Cn]
        rw [I4 (by omega)]
        exact ⟨_,rfl,⟨hd,hmem,a,b0 + 1 + 1,rfl,rfl,by omega,by omega,by omega⟩,by simp; omega⟩
       | false=>
        simp only [Bool.not_false,Cy]
        simp only [X8 (show a < d.length by omega),Oz,I4 (show a < 9223372036854775807 by omega),I4 (show b0 + 1 < 9223372036854775807 by omega)]
        refine ⟨_,rfl,⟨by simp [hd],fun x hx=>?_,a + 1,b0 + 1 + 1,rfl,rfl,by omega,by omega,by omega⟩,by simp; omega⟩
        rcases List.mem_or_eq_of_mem_set hx with h | h
        ·exact hmem x h
        ·rw [h]; exact m1
      ·right
       rw [Df (by omega),Cn]
       exact ⟨_,rfl,hd,a,rfl,by omega,hmem⟩) FUEL (l,((m + 1:Nat):Int),(1:Int)) ⟨rfl,fun _ h=>h,m + 1,1,rfl,rfl,by omega,by omega,by omega⟩ (fuel' (by simp; omega))
     simp only at hd
     rw [hw,Oz]
     simp only
     rw [hd,bb a ha]
     simp only [Oz]
     have hpl:(A3k d (a:Int).toNat (List.replicate ((l.length:Int).toNat - (a:Int).toNat) ([]:List Int)))=d.take a ++ List.replicate (l.length - a) []:=by
      unfold A3k
      simp only [Int.toNat_natCast,List.length_replicate]
      rw [List.drop_eq_nil_of_le (by omega),List.append_nil]
     rw [hpl]
     have hsb:sbL (d.take a ++ List.replicate (l.length - a) ([]:List Int)) 0 (a:Int)=some (d.take a):=by
      have:sbL (d.take a ++ List.replicate (l.length - a) ([]:List Int)) 0 (a:Int)=(bif Nat.ble 0 a && Nat.ble a (d.take a ++ List.replicate (l.length - a) ([]:List Int)).length then some (Sl.sub (d.take a ++ List.replicate (l.length - a) ([]:List Int)) 0 a) else none):=rfl
      rw [this,Nat.ble_eq_true_of_le (Nat.zero_le _),Nat.ble_eq_true_of_le (by simp; omega)]
      simp only [Bool.and_self,Cy,Sl.sub,List.drop_zero]
      rw [List.take_left' (by simp; omega)]
     rw [hsb]
     exact ⟨_,rfl,.inr ⟨_,rfl,fun x hx=>hmm x (List.mem_of_mem_take hx),by simp; omega⟩⟩
   ·right
    rw [Df (by omega)]
    exact ⟨_,rfl,.inl rfl⟩) FUEL (1:Int) ⟨1,rfl,by omega,by omega⟩ (fuel' (by simp; omega))
  rw [hr]
  rcases hq with rfl | ⟨q,rfl,hq⟩
  ·exact ⟨l,rfl,fun _ h=>h,Nat.le_refl _⟩
  ·exact ⟨q,rfl,hq⟩
theorem C9S {ts:List D5} (h:MTs ts) {t:D5} (ht:t ∈ ts) {seats:List Int} (hl:seats.length≤1000) (hs:∀ k ∈ seats,0≤k∧k < M6 t):∃ r,B4g t seats=some r∧r.length≤12∧∀ u ∈ r,PmL (M6 t).toNat u∧A1F t u=some true∧∀ k ∈ seats,u.getD k.toNat 0=k:=by
 obtain ⟨i,hi,rfl⟩:=List.getElem_of_mem ht
 obtain ⟨c1,_,_,c4,c5⟩:=h.t i _ (Lg hi)
 generalize ts[i]=t at *
 obtain ⟨cs,hc,hcl,hcp⟩:=C9H h ht
 have h0:M6 t ≠ 0:=(A6O c1).2.1
 have hbd:=Z8 t
 have hopen:t.A2M.length≤maxLen:=by rw [mx]; have:=C4h c1; omega
 have hck:A5I t=some 0:=by rw [B1g c5,c1]
 have e1:A0v seats (fun y0=>A8j y0 t)=some false:=by
  rw [D0W hl (g:=fun _=>false) (fun x hx=>by
   have:=hs x hx
   unfold A8j
   rw [Df (by omega),Cn,A2c,Oz,Df (by omega)])]
  congr 1
  induction seats <;> simp_all
 have e2:∀ u,PmL (M6 t).toNat u→A0v seats (fun y0=>A8s y0 u)=some (seats.any fun k=>!decide (u.getD k.toNat 0=k)):=fun u hu=>
  D0W hl fun k hk=>by
   have:=hs k hk
   unfold A8s
   rw [A1A 0 this.1 (by rw [hu.1]; omega)]
   rfl
 let Y:(List (List Int)⊕Unit)→List Int→(List (List Int)⊕Unit):=fun s u=>match s with
  | .inl c=>.inl (if (A1F t u).getD false && !(seats.any fun k=>!decide (u.getD k.toNat 0=k)) then c ++ [u] else c)
  | .inr x=>.inr x
 let I:(List (List Int)⊕Unit)→Nat→Prop:=fun s i=>∃ c,s=.inl c∧c.length≤i
 have hmem:∀ (i:Nat) (u:List Int),cs[i]?=some u→u ∈ cs:=fun i u hu=>A0T hu
 have key:=C5s c4 hc hcl (A9g t seats) Y I (fun s i u hu hI=>by
  obtain ⟨c,rfl,hcl'⟩:=hI
  have hi':=Q6 hu
  have hp:=hcp u (hmem i u hu)
  obtain ⟨b,hb⟩:=C9r h0 hopen hp
  have hap:apL c [u]=some (c ++ [u]):=Z4 (by omega)
  simp only [A9g,hb,Oz,e2 u hp,hap]
  show _∧∃ c',Y (.inl c) u=.inl c'∧c'.length≤i + 1
  simp only [Y,hb,Option.getD_some]
  cases b with
  | false=>exact ⟨rfl,c,rfl,by omega⟩
  | true=>
   cases seats.any fun k=>!decide (u.getD k.toNat 0=k) with
   | true=>exact ⟨rfl,c,rfl,by omega⟩
   | false=>exact ⟨rfl,c ++ [u],rfl,by simp; omega⟩) (s:=.inl []) ⟨[],rfl,Nat.le_refl _⟩
 have hfold:∀ (l:List (List Int)) (c:List (List Int)),∃ c',l.foldl Y (.inl c)=.inl c'∧c'.length≤c.length + l.length∧∀ u ∈ c',u ∈ c∨(u ∈ l∧(A1F t u).getD false=true∧(seats.any fun k=>!decide (u.getD k.toNat 0=k))=false):=by
  intro l
  induction l with
  | nil=>intro c; exact ⟨c,rfl,by simp,fun u hu=>.inl hu⟩
  | cons x l ih=>
   intro c
   rw [List.foldl_cons]
   by_cases hq:((A1F t x).getD false && !(seats.any fun k=>!decide (x.getD k.toNat 0=k)))=true
   ·have:Y (.inl c) x=.inl (c ++ [x]):=by simp only [Y]; rw [if_pos hq]
    rw [this]
    obtain ⟨c',e,hl',hm⟩:=ih (c ++ [x])
    refine ⟨c',e,by simp at hl' ⊢; omega,fun u hu=>?_⟩
    rcases hm u hu with h | ⟨h1,h2⟩
    ·rcases List.mem_append.1 h with h | h
     ·exact .inl h
     ·rw [List.mem_singleton] at h
      subst h
      simp only [Bool.and_eq_true,Bool.not_eq_true'] at hq
      exact .inr ⟨List.mem_cons_self ..,hq.1,hq.2⟩
    ·exact .inr ⟨List.mem_cons_of_mem _ h1,h2⟩
   ·have:Y (.inl c) x=.inl c:=by simp only [Y]; rw [if_neg hq]
    rw [this]
    obtain ⟨c',e,hl',hm⟩:=ih c
    refine ⟨c',e,by simp at hl' ⊢; omega,fun u hu=>?_⟩
    rcases hm u hu with h | ⟨h1,h2⟩
    ·exact .inl h
    ·exact .inr ⟨List.mem_cons_of_mem _ h1,h2⟩
 obtain ⟨c,ec,hcl2,hm2⟩:=hfold cs []
 have hm3:∀ u ∈ c,PmL (M6 t).toNat u∧A1F t u=some true∧∀ k ∈ seats,u.getD k.toNat 0=k:=fun u hu=>by
  rcases hm2 u hu with h | ⟨h1,h2,h3⟩
  ·cases h
  ·refine ⟨hcp u h1,?_,fun k hk=>?_⟩
   ·cases hk:A1F t u with
    | none=>rw [hk] at h2; cases h2
    | some b=>rw [hk] at h2; simp at h2; rw [h2]
   ·have:=List.any_eq_false.1 h3 k hk
    simpa using this
 have hc12:c.length≤12:=by simp at hcl2; omega
 have hlen:∀ u ∈ c,u.length≤1000:=fun u hu=>by rw [(hm3 u hu).1.1]; omega
 have hsort:=C3Z (c:=cmpL) (cmp:=A3B) (P:=fun u=>u.length≤1000) (fun a b ha _=>cmpL_eq ha) hc12 hlen
 have hperm:=B5L (fun a b=>decide (cmpL a b < 0)) c
 obtain ⟨r,hr,hrm,hrl⟩:=C8q (l:=B2H (fun a b=>decide (cmpL a b < 0)) c) (by rw [hperm.length_eq]; omega) (fun x hx=>hlen x (hperm.mem_iff.1 hx))
 refine ⟨r,?_,by rw [hperm.length_eq] at hrl; omega,fun u hu=>hm3 u (hperm.mem_iff.1 (hrm u hu))⟩
 unfold B4g
 simp only [hck,Oz,Dt rfl,Bool.not_true,Cn,e1,A8I,key,ec,hsort,hr]
 rfl
end Go.Pl
namespace Go.Pl
open Go Go.Sl Go.Dm
structure KI (K:G7) (p:C9) (r:F3):Prop where
 word:K.A7b ≠ (⟨#[]⟩:ByteArray)
 w:0≤r.J3∧r.J3≤1000
 n0:K.fn=false→r.fN=0
 a:K.fa=103→0≤A6Z p r.fA
 b:K.fb=true→0≤A6Z p r.fB
 t:K.ft=116→0≤A4n p r.J2
 n1:K.fn=true→K.flo≤r.fN∧(K.A6j=false→r.fN≤24)∧(K.A6j=true→0≤A4n p r.J2→∃ t:D5,p.C8[(A4n p r.J2).toNat]?=some t∧r.fN < M6 t)
theorem ne0 {n:Int} {P:Prop} (h:some n=some (0:Int)) (hn:n ≠ 0):P:=absurd (Option.some.inj h) hn
theorem D4g {K:G7} {r:F3} (h:A0w K r=some true):K.fn=false→r.fN=0:=by
 intro hn
 unfold A0w A0p A0n at h
 rw [hn] at h
 simp only [Cn] at h
 cases h1:!decide (K.fa=(0:Int)) <;> cases h2:K.fb <;> cases h3:!decide (K.ft=(0:Int)) <;> cases h4:decide (r.J2=(⟨#[]⟩:ByteArray)) <;> cases h5:decide (r.fA=(⟨#[]⟩:ByteArray)) <;> cases h6:decide (r.fB=(⟨#[]⟩:ByteArray)) <;> rw [h1,h2] at h <;> simp [h3,h4,h5,h6] at h <;> exact h
theorem D1F {K:G7} {p:C9} {r:F3} (hT:B7Z p.C8) (hc:(A8F p.C8).2=0) (hg:p.A8.length≤maxLen) (h:A1D K p r=some 0):KI K p r:=by
 have who:∀ n,A0O p n=some (A6Z p n):=fun n=>B0F hg n
 unfold A1D at h
 cases hw:decide (K.A7b=(⟨#[]⟩:ByteArray)) with
 | true=>rw [hw] at h; exact ne0 h (by decide)
 | false=>
  rw [hw,Cn] at h
  obtain ⟨b1,h1,h⟩:=bnd h
  cases b1 with
  | true=>exact ne0 h (by decide)
  | false=>
   rw [Cn] at h
   obtain ⟨b2,h2,h⟩:=bnd h
   cases b2 with
   | false=>exact ne0 h (by decide)
   | true=>
    simp only [Bool.not_true,Cn] at h
    obtain ⟨b3,h3,h⟩:=bnd h
    unfold A7Y at h
    obtain ⟨b4,h4,h⟩:=bnd h
    cases b4 with
    | true=>exact ne0 h (by decide)
    | false=>
     rw [Cn] at h
     obtain ⟨b5,h5,h⟩:=bnd h
     cases b5 with
     | true=>exact ne0 h (by decide)
     | false=>
      rw [Cn] at h
      obtain ⟨b6,h6,h⟩:=bnd h
      cases b6 with
      | true=>exact ne0 h (by decide)
      | false=>
       rw [Cn] at h
       unfold A7S at h
       rw [C3x hT hc] at h
       obtain ⟨⟨t134,t135⟩,h7,h⟩:=bnd h
       obtain ⟨b8,h8,h⟩:=bnd h
       unfold A3F at h
       cases b8 with
       | true=>exact ne0 h (by decide)
       | false=>
        rw [Cn] at h
        obtain ⟨most,h9,hf⟩:=bnd h
        have hb3:b3=false:=by
         cases b3 with
         | false=>rfl
         | true=>cases h4
        subst hb3
        rw [Cn] at h4
        have htab:K.ft=116→0≤A4n p r.J2∧t134=A4n p r.J2:=by
         intro ht
         by_cases hlt:A4n p r.J2 < 0
         ·rw [Dt hlt] at h7
          cases h7
          rw [Dt ht] at h8
          cases h8
         ·rw [Df hlt] at h7
          cases h7
          exact ⟨by omega,rfl⟩
        have htab2:0≤A4n p r.J2→t134=A4n p r.J2:=by
         intro h0
         rw [Df (by omega)] at h7
         cases h7
         rfl
        refine ⟨of_decide_eq_false hw,?_,D4g h2,?_,?_,fun ht=>(htab ht).1,?_⟩
        ·by_cases hlt:r.J3 < 0
         ·rw [Dt hlt] at h1; cases h1
         ·rw [Df hlt,Cn] at h1
          have:=of_decide_eq_false (Option.some.inj h1)
          omega
        ·intro ha
         rw [Dt ha,Cy,who] at h3
         have:=of_decide_eq_false (Option.some.inj h3)
         omega
        ·intro hb
         unfold A3H at h4
         rw [hb] at h4
         simp only [Cy,who,Oz] at h4
         cases h10:decide (K.fa=(101:Int)) with
         | false=>
          rw [h10,Cn] at h4
          have:=of_decide_eq_false (Option.some.inj h4)
          omega
         | true=>
          rw [h10,Cy] at h4
          cases h11:!decide (r.fA=(⟨#[]⟩:ByteArray)) with
          | false=>
           rw [h11,Cn] at h4
           have:=of_decide_eq_false (Option.some.inj h4)
           omega
          | true=>
           rw [h11,Cy] at h4
           by_cases hlt:A6Z p r.fA < 0
           ·rw [Dt hlt] at h4; cases h4
           ·rw [Df hlt,Cn] at h4
            have:=of_decide_eq_false (Option.some.inj h4)
            omega
        ·intro hn
         rw [hn,Cy] at hf
         by_cases hlo:r.fN < K.flo
         ·rw [Dt hlo] at hf; exact ne0 hf (by decide)
         ·rw [Df hlo,Cn] at hf
          by_cases hmo:most < r.fN
          ·rw [Dt hmo] at hf; exact ne0 hf (by decide)
          ·refine ⟨by omega,fun hs=>?_,fun hs h0=>?_⟩
           ·rw [hs] at h9; cases h9; omega
           ·rw [hs,Cy,htab2 h0] at h9
            obtain ⟨t,ht,hm⟩:=C5E hT hc h0
            rw [hm] at h9
            cases h9
            exact ⟨t,ht,by omega⟩
structure RF (p:C9) (r:F3):Prop where
 k:1≤r.H6∧r.H6≤18
 w:0≤r.J3∧r.J3≤1000
 two:r.H6≤5→0≤A6Z p r.fA∧0≤A6Z p r.fB
 one:r.H6=6∨r.H6=7→0≤A6Z p r.fA
 n:0≤r.fN∧r.fN≤24
 tab:r.H6=6∨r.H6=7∨r.H6=17→0≤A4n p r.J2
 seat:r.H6=7→∃ t:D5,p.C8[(A4n p r.J2).toNat]?=some t∧r.fN < M6 t
theorem Vld.rf {p:C9} (h:Vld p) {r:F3} (hr:r ∈ p.F9):RF p r:=by
 have hg:p.A8.length≤maxLen:=by have:=h.B2y; rw [mx]; omega
 have hu:=h.ok.u r hr
 have h0:=h.rule hr
 obtain ⟨ok,hK,h1⟩:=C9K h.ok.ts h.h.v hg hu
 rw [h0] at h1
 have ki:=D1F h.ok.ts h.h.v hg h1
 by_cases hk:r.H6 < 1∨18 < r.H6
 ·rw [C4Y (C8E hk)] at ki
  exact absurd rfl ki.word
 ·have hT:∀ t:D5,M6 t≤24:=fun t=>(Z8 t).2
  have hl:∀ (k:Int) (K':G7) (b:Bool),r.H6=k→lkM KM k zK=some (K',b)→KI K' p r:=by
   intro k K' b e1 e2
   rw [e1] at ki
   rwa [C4Y e2] at ki
  have:r.H6=1∨r.H6=2∨r.H6=3∨r.H6=4∨r.H6=5∨r.H6=6∨r.H6=7∨r.H6=8∨r.H6=9∨r.H6=10∨r.H6=11∨r.H6=12∨r.H6=13∨r.H6=14∨r.H6=15∨r.H6=16∨r.H6=17∨r.H6=18:=by omega
  rcases this with e | e | e | e | e | e | e | e | e | e | e | e | e | e | e | e | e | e
  ·have q:=hl _ _ _ e D1C; have:=(q.n1 rfl).1; have:=(q.n1 rfl).2.1 rfl; have:=q.a rfl; have:=q.b rfl
   refine ⟨by omega,q.w,fun _=>⟨q.a rfl,q.b rfl⟩,by omega,⟨by simp_all,by simp_all⟩,by omega,by omega⟩
  ·have q:=hl _ _ _ e D1T; have:=q.n0 rfl
   refine ⟨by omega,q.w,fun _=>⟨q.a rfl,q.b rfl⟩,by omega,by omega,by omega,by omega⟩
  ·have q:=hl _ _ _ e D2c; have:=q.n0 rfl
   refine ⟨by omega,q.w,fun _=>⟨q.a rfl,q.b rfl⟩,by omega,by omega,by omega,by omega⟩
  ·have q:=hl _ _ _ e D1N; have h1:=(q.n1 rfl).1; have:=(q.n1 rfl).2.1 rfl; simp only at h1
   refine ⟨by omega,q.w,fun _=>⟨q.a rfl,q.b rfl⟩,by omega,by omega,by omega,by omega⟩
  ·have q:=hl _ _ _ e D2i; have:=q.n0 rfl
   refine ⟨by omega,q.w,fun _=>⟨q.a rfl,q.b rfl⟩,by omega,by omega,by omega,by omega⟩
  ·have q:=hl _ _ _ e D1L; have:=q.n0 rfl
   refine ⟨by omega,q.w,by omega,fun _=>q.a rfl,by omega,fun _=>q.t rfl,by omega⟩
  ·have q:=hl _ _ _ e C9Z; have h1:=(q.n1 rfl).1; obtain ⟨t,ht,hn⟩:=(q.n1 rfl).2.2 rfl (q.t rfl); have:=hT t; simp only at h1
   refine ⟨by omega,q.w,by omega,fun _=>q.a rfl,by omega,fun _=>q.t rfl,fun _=>⟨t,ht,hn⟩⟩
  ·have q:=hl _ _ _ e D1p; have:=q.n0 rfl
   refine ⟨by omega,q.w,by omega,by omega,by omega,by omega,by omega⟩
  ·have q:=hl _ _ _ e D1Z; have:=q.n0 rfl
   refine ⟨by omega,q.w,by omega,by omega,by omega,by omega,by omega⟩
  ·have q:=hl _ _ _ e C8m; have:=q.n0 rfl
   refine ⟨by omega,q.w,by omega,by omega,by omega,by omega,by omega⟩
  ·have q:=hl _ _ _ e C7Z; have:=q.n0 rfl
   refine ⟨by omega,q.w,by omega,by omega,by omega,by omega,by omega⟩
  ·have q:=hl _ _ _ e C8t; have:=q.n0 rfl
   refine ⟨by omega,q.w,by omega,by omega,by omega,by omega,by omega⟩
  ·have q:=hl _ _ _ e C8M; have:=q.n0 rfl
   refine ⟨by omega,q.w,by omega,by omega,by omega,by omega,by omega⟩
  ·have q:=hl _ _ _ e C8v; have:=q.n0 rfl
   refine ⟨by omega,q.w,by omega,by omega,by omega,by omega,by omega⟩
  ·have q:=hl _ _ _ e C8J; have h1:=(q.n1 rfl).1; have:=(q.n1 rfl).2.1 rfl; simp only at h1
   refine ⟨by omega,q.w,by omega,by omega,by omega,by omega,by omega⟩
  ·have q:=hl _ _ _ e C8Z; have h1:=(q.n1 rfl).1; have:=(q.n1 rfl).2.1 rfl; simp only at h1
   refine ⟨by omega,q.w,by omega,by omega,by omega,by omega,by omega⟩
  ·have q:=hl _ _ _ e C8r; have:=q.n0 rfl
   refine ⟨by omega,q.w,by omega,by omega,by omega,fun _=>q.t rfl,by omega⟩
  ·have q:=hl _ _ _ e C7X; have:=q.n0 rfl
   refine ⟨by omega,q.w,by omega,by omega,by omega,by omega,by omega⟩
end Go.Pl
namespace Go.Pl
open Go Go.Sl Go.Dm
structure A0g (v:F6) (p:C9) (N:Nat):Prop where
 vld:Vld p
 j:JOk v.G5 p N
 part:A2I N p.A8.length v.R5
 gl:v.B7H.length=N
 gx:∀ s:Nat,s < N→v.B7H[s]?=some (Z6 (fun x=>decide (x=(s:Int))) 0 v.R5)
def noT:D5:=⟨⟨#[]⟩,0,0,0,[],0,0⟩
def noG:E8:=⟨⟨#[]⟩,⟨#[]⟩,⟨#[]⟩,0,0,⟨#[]⟩,false,false,[]⟩
section
variable (v:F6)
def pt (g:Int):Int:=v.R5.getD g.toNat (-1)
def tb (s:Int):Int:=v.G5.A0d.getD s.toNat 0
def lev (s:Int):Int:=v.G5.B6f.getD s.toNat 0
def opn (s:Int):Bool:=v.G5.C2v.getD s.toNat false
def tab (t:Int):D5:=v.G5.P6.C8.getD t.toNat noT
def gst (g:Int):E8:=v.G5.P6.A8.getD g.toNat noG
def cls (g:Int):Int:=v.G5.P6.R8.getD g.toNat 0
def tie (a b:Int):Int:=(v.G5.A0E.getD a.toNat []).getD b.toNat 0
def cmn (a b:Int):Bool:=(v.G5.B0q.getD a.toNat []).getD b.toNat false
def clo (l:List (List Int)) (a b:Int):Bool:=(l.getD (pt v a).toNat []).any fun x=>decide (x=pt v b)
def isN (a b:Int):Bool:=clo v v.G5.Y5 a b || clo v v.G5.A0D a b
def far (a b:Int):Option Int:=A4c (v.G5.A2E.getD (pt v a).toNat []) (pt v b)
def B8B (r:F3) (s:Int):Bool:=decide (r.J2=(⟨#[]⟩:ByteArray)) || decide (r.J2=(tab v (tb v s)).F7)
def wA (r:F3):Int:=A6Z v.G5.P6 r.fA
def wB (r:F3):Int:=A6Z v.G5.P6 r.fB
end
section
variable {v:F6} {p:C9} {N:Nat} (h:A0g v p N)
include h
theorem A0g.g64:p.A8.length≤64:=h.vld.B2y
theorem A0g.pl:v.R5.length=p.A8.length:=h.part.len
theorem A0g.D2E:N≤384:=by
 have h1:=h.j.n
 have:=A5K h.vld.h
 omega
theorem A0g.pG {g:Int} (h0:0≤g) (h1:g < p.A8.length):H5 v.R5 g=some (pt v g):=A1A _ h0 (by rw [h.pl]; exact h1)
theorem A0g.pB {g:Int} (h0:0≤g) (h1:g < p.A8.length):-1≤pt v g∧pt v g < N:=h.part.bd _ (A4T _ h0 (by rw [h.pl]; exact h1))
theorem A0g.tG {s:Int} (h0:0≤s) (h1:s < N):H5 v.G5.A0d s=some (tb v s):=A1A _ h0 (by rw [h.j.tb.tbl]; exact h1)
theorem A0g.tB {s:Int} (h0:0≤s) (h1:s < N):0≤tb v s∧tb v s < p.C8.length:=h.j.tb.tbv _ (A4T _ h0 (by rw [h.j.tb.tbl]; exact h1))
theorem A0g.lG {s:Int} (h0:0≤s) (h1:s < N):H5 v.G5.B6f s=some (lev v s):=A1A _ h0 (by rw [h.j.tb.lvl]; exact h1)
theorem A0g.oG {s:Int} (h0:0≤s) (h1:s < N):H5 v.G5.C2v s=some (opn v s):=A1A _ h0 (by rw [h.j.tb.opl]; exact h1)
theorem A0g.D0H {t:Int} (h0:0≤t) (h1:t < p.C8.length):H5 v.G5.P6.C8 t=some (tab v t):=A1A _ h0 (by rw [h.j.given]; exact h1)
theorem A0g.gG {g:Int} (h0:0≤g) (h1:g < p.A8.length):H5 v.G5.P6.A8 g=some (gst v g):=A1A _ h0 (by rw [h.j.given]; exact h1)
theorem A0g.cG (hc:p.R8.length ≠ 0) {g:Int} (h0:0≤g) (h1:g < p.A8.length):H5 v.G5.P6.R8 g=some (cls v g):=by
 have:=h.vld.rest.1
 exact A1A _ h0 (by rw [h.j.given]; omega)
theorem A0g.D2J {a b:Int} (h0:0≤a) (h1:a < p.A8.length) (k0:0≤b) (k1:b < p.A8.length):∃ l,H5 v.G5.A0E a=some l∧H5 l b=some (tie v a b):=by
 have hl:a < v.G5.A0E.length:=by rw [h.j.ti]; exact h1
 exact ⟨_,A1A [] h0 hl,A1A _ k0 (by rw [h.j.tiv _ (A4T [] h0 hl)]; exact k1)⟩
theorem A0g.cmG {a b:Int} (h0:0≤a) (h1:a < p.A8.length) (k0:0≤b) (k1:b < p.A8.length):∃ l,H5 v.G5.B0q a=some l∧H5 l b=some (cmn v a b):=by
 have hl:a < v.G5.B0q.length:=by rw [h.j.cm]; exact h1
 exact ⟨_,A1A [] h0 hl,A1A _ k0 (by rw [h.j.cmv _ (A4T [] h0 hl)]; exact k1)⟩
theorem A0g.asked (r:F3) {s:Int} (h0:0≤s) (h1:s < N):A4l v r s=some (B8B v r s):=by
 unfold A4l B8B
 cases decide (r.J2=(⟨#[]⟩:ByteArray)) with
 | true=>rfl
 | false=>simp only [Cn,h.tG h0 h1,Oz,h.D0H (h.tB h0 h1).1 (h.tB h0 h1).2,Bool.false_or]
theorem A0g.D2e {n:ByteArray}:A0O v.G5.P6 n=some (A6Z v.G5.P6 n):=B0F (by rw [h.j.given,mx]; have:=h.g64; omega) n
theorem A0g.C7x {n:ByteArray} (hn:0≤A6Z p n):0≤A6Z v.G5.P6 n∧A6Z v.G5.P6 n < p.A8.length:=by
 rw [h.j.given]
 obtain ⟨k,e,hk⟩:=B9N _ _ 0 hn
 unfold A6Z at hn ⊢
 omega
theorem A0g.C8K {l:List (List Int)} (hl:l.length=N) (hr:∀ r ∈ l,r.length≤24) {a b:Int} (h0:0≤a) (h1:a < p.A8.length) (ha:0≤pt v a) (k0:0≤b) (k1:b < p.A8.length):A1B v l a b=some (clo v l a b):=by
 have hb:=h.pB h0 h1
 have hp:pt v a < l.length:=by rw [hl]; exact hb.2
 unfold A1B
 rw [h.pG h0 h1,Oz,A1A [] ha hp,Oz]
 have hx:=hr _ (A4T [] ha hp)
 unfold clo
 generalize l.getD (pt v a).toNat []=e at hx
 have:=A1G (f:=A4P v b e) e (fun i x=>if decide (x=pt v b) then some (.inr true) else none) (.inl ():Unit⊕Bool) (fuel (n:=e.length) (by omega)) (fun i x hi=>by
  have hlt:=Q6 hi
  simp only [A4P,Dt (show (i:Int) < (e.length:Int) by omega),Cy,K9 hi,Oz,h.pG k0 k1]
  by_cases hq:x=pt v b
  ·simp [hq]
  ·rw [Df hq,Cn,I4 (by omega)]
   rfl) (by simp [A4P])
 rw [this,Oz,B0j _ (fun x=>!decide (x=pt v b)) (.inr true) _ (fun i x=>by cases decide (x=pt v b) <;> rfl)]
 cases hq:e.any fun x=>decide (x=pt v b) with
 | true=>
  have:(e.all fun x=>!decide (x=pt v b))=false:=by rw [←Bool.not_eq_true]; intro hh; rw [List.any_eq_true] at hq; obtain ⟨x,hx,hd⟩:=hq; have:=List.all_eq_true.1 hh x hx; rw [hd] at this; cases this
  rw [this]; rfl
 | false=>
  have:(e.all fun x=>!decide (x=pt v b))=true:=by rw [List.all_eq_true]; intro x hx; have:=List.any_eq_false.1 hq x hx; simpa using this
  rw [this]; rfl
theorem A0g.bsG {a b:Int} (h0:0≤a) (h1:a < p.A8.length) (ha:0≤pt v a) (k0:0≤b) (k1:b < p.A8.length):A1B v v.G5.Y5 a b=some (clo v v.G5.Y5 a b):=h.C8K h.j.tb.bsl (fun r hr=>(h.j.tb.bsv r hr).1) h0 h1 ha k0 k1
theorem A0g.acG {a b:Int} (h0:0≤a) (h1:a < p.A8.length) (ha:0≤pt v a) (k0:0≤b) (k1:b < p.A8.length):A1B v v.G5.A0D a b=some (clo v v.G5.A0D a b):=h.C8K h.j.tb.acl (fun r hr=>(h.j.tb.acv r hr).1) h0 h1 ha k0 k1
theorem A0g.D1c {a b:Int} (h0:0≤a) (h1:a < p.A8.length) (ha:0≤pt v a) (k0:0≤b) (k1:b < p.A8.length):A5Q v a b=some (isN v a b):=by
 unfold A5Q isN
 rw [h.bsG h0 h1 ha k0 k1,h.acG h0 h1 ha k0 k1]
 cases clo v v.G5.Y5 a b <;> rfl
theorem A0g.D3h {a b:Int} (h0:0≤a) (h1:a < p.A8.length) (ha:0≤pt v a) (k0:0≤b) (k1:b < p.A8.length):B3c v a b=some ((far v a b).getD 0,(far v a b).isSome):=by
 unfold B3c far
 rw [h.pG h0 h1,Oz,A1A [] ha (by rw [h.j.st]; exact (h.pB h0 h1).2),Oz,h.pG k0 k1,Oz]
 rcases C5Y (v.G5.A2E.getD (pt v a).toNat []) (pt v b) with ⟨x,e1,e2⟩ | ⟨e1,e2⟩
 ·rw [e1,e2]; rfl
 ·rw [e1,e2]; rfl
end
abbrev Fl:=List (Int×List Int)
def run {σ:Type} (f:σ→Int→List Int→Option σ) (s:σ) (l:Fl):Option σ:=A0e (fun s x=>f s x.1 x.2) s l
def A8k (v:F6) (r:F3) (c:Int→Int→Bool):Fl:=if (decide (0≤pt v (wA v r)) && decide (0≤pt v (wB v r)) && c (wA v r) (wB v r)) then [(1,[wA v r,wB v r])] else []
theorem C9X {σ:Type} (f:σ→Int→List Int→Option σ) (s:σ):run f s []=some s:=rfl
theorem A4p {σ:Type} (f:σ→Int→List Int→Option σ) (s:σ) (n:Int) (l:List Int):run f s [(n,l)]=f s n l:=by
 simp only [run,A0e]
 cases f s n l <;> rfl
theorem A0i {α:Type} (x:Option α):(Option.bind x fun a=>some a)=x:=by cases x <;> rfl
section
variable {v:F6} {p:C9} {N:Nat} (h:A0g v p N) {r:F3} (hr:RF p r) {σ:Type} (f:σ→Int→List Int→Option σ) (s:σ)
include h hr
theorem A0g.both (hk:r.H6≤5):A6a v r=some (wA v r,wB v r,decide (0≤pt v (wA v r)) && decide (0≤pt v (wB v r))):=by
 have ha:=h.C7x (hr.two hk).1
 have hb:=h.C7x (hr.two hk).2
 unfold A6a wA wB
 simp only [h.D2e,Oz,h.pG ha.1 ha.2,h.pG hb.1 hb.2]
 cases decide (0≤pt v (A6Z v.G5.P6 r.fA)) <;> rfl
theorem A0g.B9L (hk:r.H6≤5):(0≤wA v r∧wA v r < p.A8.length)∧0≤wB v r∧wB v r < p.A8.length:=⟨h.C7x (hr.two hk).1,h.C7x (hr.two hk).2⟩
def D1D (v:F6) (r:F3) (a b:Int):Bool:=decide (tb v (pt v a)=tb v (pt v b)) && (decide (r.fN=0) || ((far v a b).isSome && decide ((far v a b).getD 0 < r.fN)))
theorem A0g.apart (hk:r.H6≤5):B1M v r f s=run f s (A8k v r (D1D v r)):=by
 obtain ⟨⟨a0,a1⟩,b0,b1⟩:=h.B9L hr hk
 unfold B1M A8k D1D
 rw [h.both hr hk,Oz]
 by_cases ha:0≤pt v (wA v r)
 ·by_cases hb:0≤pt v (wB v r)
  ·simp only [Dt ha,Dt hb,Bool.and_self,Bool.not_true,Cn,h.pG a0 a1,h.pG b0 b1,Oz,h.tG ha (h.pB a0 a1).2,h.tG hb (h.pB b0 b1).2,h.D3h a0 a1 ha b0 b1,Bool.true_and]
   by_cases ht:tb v (pt v (wA v r))=tb v (pt v (wB v r))
   ·simp only [Dt ht,Bool.not_true,Cn,Bool.true_and]
    cases decide (r.fN=0) with
    | true=>simp only [Cy,Bool.true_or,if_true,A4p,A0i]
    | false=>
     cases (far v (wA v r) (wB v r)).isSome with
     | false=>rfl
     | true=>
      simp only [Cn,Cy,Bool.false_or,Bool.true_and]
      cases decide ((far v (wA v r) (wB v r)).getD 0 < r.fN) with
      | true=>simp only [Cy,if_true,A4p,A0i]
      | false=>rfl
   ·simp only [Df ht,Bool.not_false,Cy,Bool.false_and]
    rfl
  ·simp only [Df hb,Bool.and_false,Bool.not_false,Cy,Oz,Bool.false_and]
   rfl
 ·simp only [Df ha,Bool.false_and,Bool.not_false,Cy,Oz]
  rfl
theorem A0g.side (hk:r.H6≤5):A5v v r f s=run f s (A8k v r (fun a b=>!clo v v.G5.Y5 a b)):=by
 obtain ⟨⟨a0,a1⟩,b0,b1⟩:=h.B9L hr hk
 unfold A5v A8k
 rw [h.both hr hk,Oz]
 by_cases ha:0≤pt v (wA v r)
 ·by_cases hb:0≤pt v (wB v r)
  ·simp only [Dt ha,Dt hb,Bool.and_self,Cy,h.bsG a0 a1 ha b0 b1,Oz,Bool.true_and]
   cases clo v v.G5.Y5 (wA v r) (wB v r) with
   | true=>rfl
   | false=>simp only [Bool.not_false,Cy,if_true,A4p,A0i]
  ·simp only [Df hb,Bool.and_false,Cn,Bool.false_and]
   rfl
 ·simp only [Df ha,Bool.false_and,Cn]
  rfl
theorem A0g.D3O (hk:r.H6≤5):A5w v r f s=run f s (A8k v r (fun a b=>!clo v v.G5.A0D a b)):=by
 obtain ⟨⟨a0,a1⟩,b0,b1⟩:=h.B9L hr hk
 unfold A5w A8k
 rw [h.both hr hk,Oz]
 by_cases ha:0≤pt v (wA v r)
 ·by_cases hb:0≤pt v (wB v r)
  ·simp only [Dt ha,Dt hb,Bool.and_self,Cy,h.acG a0 a1 ha b0 b1,Oz,Bool.true_and]
   cases clo v v.G5.A0D (wA v r) (wB v r) with
   | true=>rfl
   | false=>simp only [Bool.not_false,Cy,if_true,A4p,A0i]
  ·simp only [Df hb,Bool.and_false,Cn,Bool.false_and]
   rfl
 ·simp only [Df ha,Bool.false_and,Cn]
  rfl
theorem A0g.within (hk:r.H6≤5):B0I v r f s=run f s (A8k v r (fun a b=>!(far v a b).isSome || decide (r.fN < (far v a b).getD 0))):=by
 obtain ⟨⟨a0,a1⟩,b0,b1⟩:=h.B9L hr hk
 unfold B0I A8k
 rw [h.both hr hk,Oz]
 by_cases ha:0≤pt v (wA v r)
 ·by_cases hb:0≤pt v (wB v r)
  ·simp only [Dt ha,Dt hb,Bool.and_self,Cy,h.D3h a0 a1 ha b0 b1,Oz,Bool.true_and]
   cases (far v (wA v r) (wB v r)).isSome with
   | false=>simp only [Bool.not_false,Cy,Bool.true_or,if_true,A4p,A0i]
   | true=>
    simp only [Bool.not_true,Cn,Bool.false_or]
    cases decide (r.fN < (far v (wA v r) (wB v r)).getD 0) with
    | false=>rfl
    | true=>simp only [Cy,if_true,A4p,A0i]
  ·simp only [Df hb,Bool.and_false,Cn,Bool.false_and]
   rfl
 ·simp only [Df ha,Bool.false_and,Cn]
  rfl
theorem A0g.together (hk:r.H6≤5):A7N v r f s=run f s (A8k v r (fun a b=>!decide (tb v (pt v a)=tb v (pt v b)))):=by
 obtain ⟨⟨a0,a1⟩,b0,b1⟩:=h.B9L hr hk
 unfold A7N A8k
 rw [h.both hr hk,Oz]
 by_cases ha:0≤pt v (wA v r)
 ·by_cases hb:0≤pt v (wB v r)
  ·simp only [Dt ha,Dt hb,Bool.and_self,Cy,h.pG a0 a1,h.pG b0 b1,Oz,h.tG ha (h.pB a0 a1).2,h.tG hb (h.pB b0 b1).2,Bool.true_and]
   cases decide (tb v (pt v (wA v r))=tb v (pt v (wB v r))) with
   | true=>rfl
   | false=>simp only [Bool.not_false,Cy,if_true,A4p,A0i]
  ·simp only [Df hb,Bool.and_false,Cn,Bool.false_and]
   rfl
 ·simp only [Df ha,Bool.false_and,Cn]
  rfl
end
end Go.Pl
namespace Go.Pl
open Go Go.Sl Go.Dm
def flS (G:Nat) (c:Nat→Bool):Fl:=((List.range G).filter c).map fun (g:Nat)=>(1,[(g:Int)])
def flP (G:Nat) (c:Nat→Nat→Bool):Fl:=(List.range G).flatMap fun a=>((List.range' (a + 1) (G - (a + 1))).filter (c a)).map fun (b:Nat)=>((1:Int),[(a:Int),(b:Int)])
section
variable {σ:Type} (f:σ→Int→List Int→Option σ) (s:σ)
theorem C2O {l0:σ×Int→Option ((σ×Int)⊕σ)} {G:Nat} (hG:G≤1000) (c:Nat→Bool)
  (h1:∀ s i,i < G→l0 (s,(i:Int))=Option.bind (if c i then f s 1 [(i:Int)] else some s) fun s'=>some (.inl (s',((i + 1:Nat):Int))))
  (h2:∀ s,l0 (s,(G:Int))=some (.inr s)):iter l0 FUEL (s,(0:Int))=run f s (flS G c):=by
 have:=B6g (f:=l0) (fun (s:σ) (i:Nat)=>(s,(i:Int))) id (N:=G) (fun s i=>if c i then f s 1 [(i:Int)] else some s) h1 h2 s (fuel' (n:=G) (by omega))
 unfold run flS
 rw [B8h,A6o]
 simpa using this
theorem C9E {l1:σ×Int→Option ((σ×Int)⊕σ)} {G a:Nat} (hG:G≤1000) (ha:a < G) (c:Nat→Bool)
  (h1:∀ s i,i < G→a < i→l1 (s,(i:Int))=Option.bind (if c i then f s 1 [(a:Int),(i:Int)] else some s) fun s'=>some (.inl (s',((i + 1:Nat):Int))))
  (h2:∀ s,l1 (s,(G:Int))=some (.inr s)):iter l1 FUEL (s,((a + 1:Nat):Int))=run f s (((List.range' (a + 1) (G - (a + 1))).filter c).map fun (b:Nat)=>((1:Int),[(a:Int),(b:Int)])):=by
 unfold run
 rw [B8h,A6o]
 have key:∀ (n k:Nat) (s:σ),a < k→k≤G→G - k < n→iter l1 n (s,(k:Int))=A0e (fun s i=>if c i then f s 1 [(a:Int),(i:Int)] else some s) s (List.range' k (G - k)):=by
  intro n
  induction n with
  | zero=>intro k s _ _ h; omega
  | succ n ih=>
   intro k s hak hk hn
   by_cases hl:k=G
   ·subst hl
    simp [iter,h2,A0e]
   ·have hlt:k < G:=by omega
    have e:List.range' k (G - k)=k::List.range' (k + 1) (G - (k + 1)):=by
     obtain ⟨d,hd⟩:∃ d,G - k=d + 1:=⟨G - k - 1,by omega⟩
     rw [hd,List.range'_succ,show G - (k + 1)=d by omega]
    rw [e]
    simp only [iter,h1 s k hlt hak,A0e]
    cases (if c k then f s 1 [(a:Int),(k:Int)] else some s) with
    | none=>rfl
    | some s'=>exact ih (k + 1) s' (by omega) (by omega) (by omega)
 exact key FUEL (a + 1) s (by omega) (by omega) (fuel' (by omega))
theorem C8V {l0:σ×Int→Option ((σ×Int)⊕σ)} {G:Nat} (hG:G≤1000) (c:Nat→Nat→Bool)
  (h1:∀ s a,a < G→l0 (s,(a:Int))=Option.bind (run f s (((List.range' (a + 1) (G - (a + 1))).filter (c a)).map fun (b:Nat)=>((1:Int),[(a:Int),(b:Int)]))) fun s'=>some (.inl (s',((a + 1:Nat):Int))))
  (h2:∀ s,l0 (s,(G:Int))=some (.inr s)):iter l0 FUEL (s,(0:Int))=run f s (flP G c):=by
 have:=B6g (f:=l0) (fun (s:σ) (i:Nat)=>(s,(i:Int))) id (N:=G) (fun s a=>run f s (((List.range' (a + 1) (G - (a + 1))).filter (c a)).map fun (b:Nat)=>((1:Int),[(a:Int),(b:Int)]))) h1 h2 s (fuel' (n:=G) (by omega))
 unfold flP
 have e:∀ l:List Nat,run f s (l.flatMap fun a=>((List.range' (a + 1) (G - (a + 1))).filter (c a)).map fun (b:Nat)=>((1:Int),[(a:Int),(b:Int)]))=A0e (fun s a=>run f s (((List.range' (a + 1) (G - (a + 1))).filter (c a)).map fun (b:Nat)=>((1:Int),[(a:Int),(b:Int)]))) s l:=fun l=>B5Q _ _ l s
 rw [e]
 simpa using this
end
section
variable {v:F6} {p:C9} {N:Nat} (h:A0g v p N) {r:F3} {σ:Type} (f:σ→Int→List Int→Option σ) (s:σ)
include h
theorem A0g.C4n {i:Nat} (hi:i < p.A8.length):J8 ((i:Int) + (1:Int))=some ((i + 1:Nat):Int):=I4 (by have:=h.g64; omega)
def C3j (v:F6) (r:F3) (g:Nat):Bool:=decide (0≤pt v g) && !opn v (pt v g) && (decide (r.fA=(gst v g).F7) || (decide (r.fA=(⟨#[]⟩:ByteArray)) && (gst v g).Y6))
theorem A0g.reach:B1U v r f s=run f s (flS p.A8.length (C3j v r)):=by
 have hg:=h.g64
 unfold B1U
 rw [C2O f s (l0:=A5a v r f) (G:=p.A8.length) (by omega) (C3j v r),A0i]
 ·intro s i hi
  have hp:=h.pB (g:=i) (by omega) (by omega)
  unfold C3j
  simp only [A5a,B4W,Dt (show (i:Int) < (v.R5.length:Int) by rw [h.pl]; omega),Cy,h.pG (g:=i) (by omega) (by omega),Oz,h.gG (g:=i) (by omega) (by omega),h.C4n hi]
  by_cases h0:0≤pt v i
  ·simp only [Dt h0,Cy,h.oG h0 hp.2,Oz,Bool.true_and]
   cases opn v (pt v i) with
   | true=>rfl
   | false=>
    cases decide (r.fA=(gst v i).F7) with
    | true=>rfl
    | false=>
     cases decide (r.fA=(⟨#[]⟩:ByteArray)) with
     | false=>rfl
     | true=>cases (gst v i).Y6 <;> rfl
  ·simp only [Df h0]
   rfl
 ·intro s
  simp [A5a,h.pl]
def B6q (v:F6) (r:F3) (g:Nat):Bool:=decide (0≤pt v g) && decide ((gst v g).A0t=r.fA) && !B8B v r (pt v g)
theorem A0g.C9V:A8V v r f s=run f s (flS p.A8.length (B6q v r)):=by
 have hg:=h.g64
 unfold A8V
 rw [C2O f s (l0:=A3p v r f) (G:=p.A8.length) (by omega) (B6q v r),A0i]
 ·intro s i hi
  have hp:=h.pB (g:=i) (by omega) (by omega)
  unfold B6q
  simp only [A3p,B2P,Dt (show (i:Int) < (v.R5.length:Int) by rw [h.pl]; omega),Cy,h.pG (g:=i) (by omega) (by omega),Oz,h.gG (g:=i) (by omega) (by omega),h.C4n hi]
  by_cases h0:0≤pt v i
  ·simp only [Dt h0,Cy,h.asked r h0 hp.2,Oz,Bool.true_and]
   cases decide ((gst v i).A0t=r.fA) with
   | false=>rfl
   | true=>cases B8B v r (pt v i) <;> rfl
  ·simp only [Df h0]
   rfl
 ·intro s
  simp [A3p,h.pl]
def who (v:F6) (k:Int):Int:=v.B7H.getD k.toNat (-1)
theorem A0g.whG {k:Int} (h0:0≤k) (h1:k < N):H5 v.B7H k=some (who v k):=A1A _ h0 (by rw [h.gl]; exact h1)
theorem A0g.whB {k:Int} (h0:0≤k) (h1:k < N):-1≤who v k∧who v k < p.A8.length:=by
 have e:=h.gx k.toNat (by omega)
 have e':who v k=Z6 (fun x=>decide (x=((k.toNat:Nat):Int))) 0 v.R5:=by unfold who; simp [List.getD,e]
 rw [e']
 by_cases hn:0≤Z6 (fun x=>decide (x=((k.toNat:Nat):Int))) 0 v.R5
 ·obtain ⟨j,ej,hj⟩:=B9N _ _ 0 hn
  rw [h.pl] at hj
  omega
 ·have h2:=B1A (fun x=>decide (x=((k.toNat:Nat):Int))) v.R5 0
  have h3:=A9G (fun x=>decide (x=((k.toNat:Nat):Int))) v.R5 0 (h2.mp (by omega))
  omega
def spk (v:F6) (g:Int) (a b:Bool) (l:List Int):Bool×Bool:=(a || l.any (fun k=>decide (0≤who v k)),b && l.all (fun k=>!decide (0≤who v k) || !cmn v g (who v k)))
theorem A0g.C9u {g:Int} (g0:0≤g) (g1:g < p.A8.length) {l:List Int} (hl:l.length≤24) (hx:∀ x ∈ l,0≤x∧x < N) (a b:Bool):iter (A2s v g l) FUEL ((0:Int),a,b)=some (spk v g a b l):=by
 have key:=C6a (f:=A2s v g l) (fun (q:Bool×Bool) (i:Nat)=>((i:Int),q.1,q.2)) id l (fun q k=>some (if 0≤who v k then (true,q.2 && !cmn v g (who v k)) else q)) (fun q i k hk=>by
  obtain ⟨q1,q2⟩:=q
  have hlt:=Q6 hk
  have hb:=hx k (A0T hk)
  have hw:=h.whB hb.1 hb.2
  simp only [A2s,B5o,Dt (show (i:Int) < (l.length:Int) by omega),Cy,K9 hk,Oz,h.whG hb.1 hb.2,I4 (show i < 9223372036854775807 by omega)]
  by_cases h0:0≤who v k
  ·obtain ⟨l',e1,e2⟩:=h.cmG g0 g1 h0 hw.2
   simp only [Dt h0,Cy,e1,e2,Oz,if_pos h0]
   cases q2 <;> rfl
  ·simp only [Df h0,Cn,if_neg h0]) (fun q=>by simp [A2s]) (a,b) (fuel' (n:=l.length) (by omega))
 have:iter (A2s v g l) FUEL ((0:Int),a,b)=(A0e (fun (q:Bool×Bool) k=>some (if 0≤who v k then (true,q.2 && !cmn v g (who v k)) else q)) (a,b) l).map id:=by simpa using key
 rw [this,Option.map_id]
 clear this key hl hx
 unfold spk
 induction l generalizing a b with
 | nil=>simp [A0e]
 | cons k l ih=>
  simp only [A0e,Oz,List.any_cons,List.all_cons]
  by_cases h0:0≤who v k
  ·rw [if_pos h0]
   simp only [Dt h0,ih]
   cases a <;> cases b <;> simp
  ·rw [if_neg h0]
   simp only [Df h0,ih]
   simp
theorem A0g.D1E {g:Int} (g0:0≤g) (g1:g < p.A8.length) {l m:List Int} (hl:l.length≤24) (hx:∀ x ∈ l,0≤x∧x < N) (hm:m.length≤24) (hy:∀ x ∈ m,0≤x∧x < N):iter (A1r v g l m) FUEL ((0:Int),false,true)=some (spk v g false true (l ++ m)):=by
 have e0:A1r v g l m ((0:Int),false,true)=some (.inl ((1:Int),(spk v g false true l).1,(spk v g false true l).2)):=by
  have e:decide ((0:Int) < (([l,m]:List (List Int)).length:Int))=true:=rfl
  have e2:H5 [l,m] (0:Int)=some l:=rfl
  simp only [A1r,e,Cy,e2,Oz,h.C9u g0 g1 hl hx]
  rfl
 have e1:∀ a b,A1r v g l m ((1:Int),a,b)=some (.inl ((2:Int),(spk v g a b m).1,(spk v g a b m).2)):=by
  intro a b
  have e:decide ((1:Int) < (([l,m]:List (List Int)).length:Int))=true:=rfl
  have e2:H5 [l,m] (1:Int)=some m:=rfl
  simp only [A1r,e,Cy,e2,Oz,h.C9u g0 g1 hm hy]
  rfl
 have e2:∀ a b,A1r v g l m ((2:Int),a,b)=some (.inr (a,b)):=fun a b=>rfl
 have hF:∃ n,FUEL=n + 3:=⟨FUEL - 3,by have:=fuel' (n:=3) (by omega); omega⟩
 obtain ⟨n,hF⟩:=hF
 rw [hF]
 simp only [iter,e0,Oz,e1,e2]
 unfold spk
 simp [List.any_append,List.all_append]
def nbs (v:F6) (g:Int):List Int:=v.G5.Y5.getD (pt v g).toNat [] ++ v.G5.A0D.getD (pt v g).toNat []
def C3A (v:F6) (r:F3) (g:Nat):Bool:=decide (0≤pt v g) && B8B v r (pt v g) && ((nbs v g).any (fun k=>decide (0≤who v k)) && (nbs v g).all (fun k=>!decide (0≤who v k) || !cmn v g (who v k)))
theorem A0g.speak:B2c v r f s=run f s (flS p.A8.length (C3A v r)):=by
 have hg:=h.g64
 unfold B2c
 rw [C2O f s (l0:=A4Y v r f) (G:=p.A8.length) (by omega) (C3A v r),A0i]
 ·intro s i hi
  have hp:=h.pB (g:=i) (by omega) (by omega)
  unfold C3A
  simp only [A4Y,Dt (show (i:Int) < (v.R5.length:Int) by rw [h.pl]; omega),Cy,h.pG (g:=i) (by omega) (by omega),Oz,h.C4n hi]
  by_cases h0:0≤pt v i
  ·have hbl:pt v i < v.G5.Y5.length:=by rw [h.j.tb.bsl]; exact hp.2
   have hal:pt v i < v.G5.A0D.length:=by rw [h.j.tb.acl]; exact hp.2
   have hb:=h.j.tb.bsv _ (A4T [] h0 hbl)
   have ha:=h.j.tb.acv _ (A4T [] h0 hal)
   simp only [Dt h0,Df (show ¬ pt v i < 0 by omega),Cn,h.asked r h0 hp.2,Oz,Bool.true_and]
   cases B8B v r (pt v i) with
   | false=>rfl
   | true=>
    simp only [Bool.not_true,Cn,Bool.true_and,B4M,A1A [] h0 hbl,A1A [] h0 hal,Oz,h.D1E (g:=(i:Int)) (by omega) (by omega) hb.1 hb.2 ha.1 ha.2,spk,Bool.false_or,h.C4n hi]
    change (bif (nbs v i).any _ then _ else _)=_
    cases (nbs v i).any fun k=>decide (0≤who v k) with
    | false=>rfl
    | true=>
     change (bif (nbs v i).all _ then _ else _)=_
     cases (nbs v i).all fun k=>!decide (0≤who v k) || !cmn v i (who v k) <;> rfl
  ·simp only [Df h0,Dt (show pt v i < 0 by omega)]
   rfl
 ·intro s
  simp [A4Y,h.pl]
def C4t (v:F6) (r:F3) (a b:Nat):Bool:=decide (0≤pt v a) && decide (0≤pt v b) && decide (tie v a b=1) && (B8B v r (pt v a) || B8B v r (pt v b)) && !isN v a b
theorem A0g.company:A9c v r f s=run f s (flP p.A8.length (C4t v r)):=by
 have hg:=h.g64
 unfold A9c
 rw [C8V f s (l0:=A3y v r f) (G:=p.A8.length) (by omega) (C4t v r),A0i]
 ·intro s a ha
  have hpa:=h.pB (g:=a) (by omega) (by omega)
  simp only [A3y,Dt (show (a:Int) < (v.R5.length:Int) by rw [h.pl]; omega),Cy,h.pG (g:=a) (by omega) (by omega),Oz,h.C4n ha]
  rw [C9E f s (l1:=A3l v r f a (pt v a)) (G:=p.A8.length) (by omega) ha (C4t v r a)]
  ·intro s b hb hab
   have hpb:=h.pB (g:=b) (by omega) (by omega)
   obtain ⟨l,e1,e2⟩:=h.D2J (a:=a) (b:=b) (by omega) (by omega) (by omega) (by omega)
   unfold C4t
   simp only [A3l,B2M,B2G,Dt (show (b:Int) < (v.R5.length:Int) by rw [h.pl]; omega),Cy,h.pG (g:=b) (by omega) (by omega),Oz,h.C4n hb]
   by_cases h0:0≤pt v a
   ·by_cases h1:0≤pt v b
    ·simp only [Dt h0,Dt h1,Cy,e1,e2,Oz,Bool.true_and,h.asked r h0 hpa.2,h.asked r h1 hpb.2,h.D1c (a:=a) (b:=b) (by omega) (by omega) h0 (by omega) (by omega)]
     cases decide (tie v a b=1) with
     | false=>rfl
     | true=>cases B8B v r (pt v a) <;> cases B8B v r (pt v b) <;> cases isN v a b <;> rfl
    ·simp only [Df h1]
     cases decide (0≤pt v a) <;> rfl
   ·simp only [Df h0]
    rfl
  ·intro s
   simp [A3l,h.pl]
 ·intro s
  simp [A3y,h.pl]
def A8N (v:F6) (r:F3) (so:Int→Int→Bool) (a b:Nat):Bool:=decide (0≤pt v a) && B8B v r (pt v a) && (decide (0≤pt v b) && decide (tb v (pt v b)=tb v (pt v a)) && so a b)
theorem A0g.pairs (so:Int→Int→Bool) (so':Int→Int→Option Bool) (hs:∀ a b:Int,0≤a→a < p.A8.length→0≤b→b < p.A8.length→0≤pt v a→0≤pt v b→so' a b=some (so a b)):A5L v r so' f s=run f s (flP p.A8.length (A8N v r so)):=by
 have hg:=h.g64
 unfold A5L
 rw [C8V f s (l0:=A5t v r so' f) (G:=p.A8.length) (by omega) (A8N v r so),A0i]
 ·intro s a ha
  have hpa:=h.pB (g:=a) (by omega) (by omega)
  simp only [A5t,B5j,Dt (show (a:Int) < (v.R5.length:Int) by rw [h.pl]; omega),Cy,h.pG (g:=a) (by omega) (by omega),Oz,h.C4n ha]
  by_cases h0:0≤pt v a
  ·simp only [Df (show ¬ pt v a < 0 by omega),Cn,h.asked r h0 hpa.2,Oz]
   cases hk:B8B v r (pt v a) with
   | true=>
    simp only [Bool.not_true,Cn]
    rw [C9E f s (l1:=A5q v so' f a (pt v a)) (G:=p.A8.length) (by omega) ha (A8N v r so a)]
    ·intro s b hb hab
     have hpb:=h.pB (g:=b) (by omega) (by omega)
     unfold A8N
     simp only [A5q,B4J,Dt (show (b:Int) < (v.R5.length:Int) by rw [h.pl]; omega),Cy,h.pG (g:=b) (by omega) (by omega),Oz,h.C4n hb,Dt h0,hk,Bool.true_and]
     by_cases h1:0≤pt v b
     ·simp only [Dt h1,Cy,Bool.true_and,h.tG h0 hpa.2,h.tG h1 hpb.2,Oz]
      cases decide (tb v (pt v b)=tb v (pt v a)) with
      | false=>rfl
      | true=>
       simp only [Cy,hs a b (by omega) (by omega) (by omega) (by omega) h0 h1,Oz,Bool.true_and]
       cases so a b <;> rfl
     ·simp only [Df h1]
      rfl
    ·intro s
     simp [A5q,h.pl]
   | false=>
    have:(List.range' (a + 1) (p.A8.length - (a + 1))).filter (A8N v r so a)=[]:=by
     rw [List.filter_eq_nil_iff]
     intro b _
     simp [A8N,hk]
    rw [this]
    rfl
  ·have:(List.range' (a + 1) (p.A8.length - (a + 1))).filter (A8N v r so a)=[]:=by
    rw [List.filter_eq_nil_iff]
    intro b _
    simp [A8N,h0]
   rw [this,Dt (show pt v a < 0 by omega)]
   rfl
 ·intro s
  simp [A5t,h.pl]
end
end Go.Pl
namespace Go.Pl
open Go Go.Sl Go.Dm
def B8G (v:F6) (t:Int):Nat→Nat
 | 0=>0
 | n + 1=>if tb v (n:Int)=t then B8G v t n else n + 1
def sit (v:F6) (G:Nat) (t:Int):List Int:=((List.range G).filter fun (g:Nat)=>decide (0≤pt v g) && decide (tb v (pt v g)=t)).map fun (g:Nat)=>(g:Int)
def flT (v:F6) (r:F3) (T G:Nat) (c:List Int→Fl):Fl:=((List.range T).filter fun (t:Nat)=>decide (r.J2=(⟨#[]⟩:ByteArray)) || decide (r.J2=(tab v t).F7)).flatMap fun (t:Nat)=>c (sit v G t)
theorem C6f (v:F6) (t:Int):∀ n,B8G v t n≤n
 | 0=>Nat.le_refl _
 | n + 1=>by
  unfold B8G
  by_cases h:tb v (n:Int)=t
  ·rw [if_pos h]; have:=C6f v t n; omega
  ·rw [if_neg h]; exact Nat.le_refl _
def D1o (v:F6) (r:F3):Fl:=if decide (0≤pt v (wA v r)) && !decide ((tab v (tb v (pt v (wA v r)))).F7=r.J2) then [(1,[wA v r])] else []
def B7z (v:F6) (r:F3):Fl:=if decide (0≤pt v (wA v r)) && (!decide ((tab v (tb v (pt v (wA v r)))).F7=r.J2) || !decide (pt v (wA v r) - (B8G v (tb v (pt v (wA v r))) (pt v (wA v r)).toNat:Nat)=r.fN)) then [(1,[wA v r])] else []
def C6i (v:F6) (l:List Int):Fl:=if l.any (fun g=>(gst v g).A0s) then [] else if 0 < l.length then [(1,l)] else []
def C5f (r:F3) (l:List Int):Fl:=if (l.length:Int) < r.fN then [(r.fN - l.length,l)] else []
def C9n (r:F3) (l:List Int):Fl:=if r.fN < (l.length:Int) then [((l.length:Int) - r.fN,l)] else []
def D0D (v:F6) (a b:Int):Bool:=decide (0 < (gst v a).A0r) && decide ((gst v a).A0r=(gst v b).A0r) && clo v v.G5.Y5 a b
def D0K (v:F6) (a b:Int):Bool:=!decide ((gst v a).W9=(⟨#[]⟩:ByteArray)) && decide ((gst v a).W9=(gst v b).W9) && clo v v.G5.Y5 a b
def C2M (v:F6) (a b:Int):Bool:=decide (tie v a b=2) && isN v a b
def D0i (v:F6) (a b:Int):Bool:=if cls v b < cls v a then decide (lev v (pt v a) < lev v (pt v b)) else decide (cls v a < cls v b) && decide (lev v (pt v b) < lev v (pt v a))
section
variable {v:F6} {p:C9} {N:Nat} (h:A0g v p N) {r:F3} {σ:Type} (f:σ→Int→List Int→Option σ) (s:σ)
include h
theorem A0g.at_ (hr:RF p r) (hk:r.H6=6∨r.H6=7):B9b v r f s=run f s (D1o v r):=by
 have ha:0≤wA v r∧wA v r < p.A8.length:=h.C7x (hr.one hk)
 unfold B9b D1o
 rw [h.D2e,Oz]
 change (Option.bind (H5 v.R5 (wA v r)) _)=_
 rw [h.pG ha.1 ha.2,Oz]
 by_cases h0:0≤pt v (wA v r)
 ·have hp:=(h.pB ha.1 ha.2).2
  have ht:=h.tB h0 hp
  simp only [Dt h0,Cy,h.tG h0 hp,Oz,h.D0H ht.1 ht.2,Bool.true_and]
  cases decide ((tab v (tb v (pt v (wA v r)))).F7=r.J2) with
  | true=>rfl
  | false=>
   simp only [Bool.not_false,Cy,if_true,A4p,A0i]
   rfl
 ·simp only [Df h0]
  rfl
theorem A0g.D2x {t0:Int} (h0:0≤t0) (h1:t0 < N):∀ (n m:Nat),n < m→n≤N→iter (A9a v t0) m (n:Int)=some ((B8G v (tb v t0) n:Nat):Int):=by
 have hN:=h.D2E
 intro n
 induction n with
 | zero=>
  intro m hm _
  obtain ⟨k,rfl⟩:∃ k,m=k + 1:=⟨m - 1,by omega⟩
  rfl
 | succ n ih=>
  intro m hm hn
  obtain ⟨k,rfl⟩:∃ k,m=k + 1:=⟨m - 1,by omega⟩
  have e1:J8 (((n + 1:Nat):Int) - (1:Int))=some (n:Int):=by rw [A0N (by omega) (by omega)]; congr 1; omega
  simp only [iter,A9a,Dt (show (0:Int) < ((n + 1:Nat):Int) by omega),Cy,e1,Oz,h.tG (s:=(n:Int)) (by omega) (by omega),h.tG h0 h1]
  unfold B8G
  by_cases hq:tb v (n:Int)=tb v t0
  ·rw [Dt hq,if_pos hq]
   exact ih k (by omega) (by omega)
  ·rw [Df hq,if_neg hq]
   rfl
theorem A0g.seat (hr:RF p r) (hk:r.H6=6∨r.H6=7):B4t v r f s=run f s (B7z v r):=by
 have ha:0≤wA v r∧wA v r < p.A8.length:=h.C7x (hr.one hk)
 have hN:=h.D2E
 unfold B4t B7z
 rw [h.D2e,Oz]
 change (Option.bind (H5 v.R5 (wA v r)) _)=_
 rw [h.pG ha.1 ha.2,Oz]
 by_cases h0:0≤pt v (wA v r)
 ·have hp:=(h.pB ha.1 ha.2).2
  have ht:=h.tB h0 hp
  have e:=h.D2x h0 hp (pt v (wA v r)).toNat FUEL (fuel' (by omega)) (by omega)
  rw [show (((pt v (wA v r)).toNat:Nat):Int)=pt v (wA v r) by omega] at e
  have hf:=C6f v (tb v (pt v (wA v r))) (pt v (wA v r)).toNat
  simp only [Df (show ¬ pt v (wA v r) < 0 by omega),Cn,e,h.tG h0 hp,Oz,h.D0H ht.1 ht.2,Dt h0,Bool.true_and]
  rw [A0N (x:=pt v (wA v r) - _) (by omega) (by omega)]
  cases decide ((tab v (tb v (pt v (wA v r)))).F7=r.J2) with
  | false=>
   simp only [Bool.not_false,Cy,Bool.true_or,if_true,A4p,A0i]
   rfl
  | true=>
   simp only [Bool.not_true,Cn,Bool.false_or,Oz]
   cases decide (pt v (wA v r) - ((B8G v (tb v (pt v (wA v r))) (pt v (wA v r)).toNat:Nat):Int)=r.fN) with
   | true=>rfl
   | false=>
    simp only [Bool.not_false,Cy,if_true,A4p,A0i]
    rfl
 ·simp only [Df h0,Dt (show pt v (wA v r) < 0 by omega)]
  rfl
theorem C2i (c:Nat→Bool):∀ (l:List Nat) (a:List Int),l.foldl (fun a g=>if c g then a ++ [(g:Int)] else a) a=a ++ (l.filter c).map fun (g:Nat)=>(g:Int)
 | [],a=>by simp
 | g::l,a=>by
  simp only [List.foldl_cons]
  rw [C2i c l]
  by_cases hc:c g=true
  ·simp [hc]
  ·simp [hc]
theorem A0g.D3Q {t:Int}:iter (A3i v t) FUEL ((0:Int),([]:List Int))=some (sit v p.A8.length t):=by
 have hg:=h.g64
 have:=C0w (f:=A3i v t) (fun (l:List Int) (i:Nat)=>((i:Int),l)) id (N:=p.A8.length) (fun a g=>if decide (0≤pt v g) && decide (tb v (pt v g)=t) then a ++ [(g:Int)] else a) (fun l i=>l.length≤i) (a:=[]) (Nat.zero_le _) (fun l i hi hl=>by
  have hp:=h.pB (g:=i) (by omega) (by omega)
  have hap:apL l [(i:Int)]=some (l ++ [(i:Int)]):=Z4 (by omega)
  simp only [A3i,Dt (show (i:Int) < (v.R5.length:Int) by rw [h.pl]; omega),Cy,h.pG (g:=i) (by omega) (by omega),Oz,I4 (show i < 9223372036854775807 by omega),hap]
  by_cases h0:0≤pt v i
  ·simp only [Dt h0,Cy,h.tG h0 hp.2,Oz,Bool.true_and]
   by_cases hq:tb v (pt v i)=t
   ·simp only [Dt hq,Cy,if_true]
    exact ⟨by first | trivial | rfl,by simp; omega⟩
   ·simp only [Df hq,Cn]
    exact ⟨by first | trivial | rfl,by simp; omega⟩
  ·simp only [Df h0,Cn,Bool.false_and]
   exact ⟨by first | trivial | rfl,by simp; omega⟩) (fun l hl=>by simp [A3i,h.pl]) (fuel' (n:=p.A8.length) (by omega))
 have e:iter (A3i v t) FUEL ((0:Int),([]:List Int))=some (id ((List.range p.A8.length).foldl (fun (a:List Int) (g:Nat)=>if decide (0≤pt v g) && decide (tb v (pt v g)=t) then a ++ [(g:Int)] else a) [])):=this
 rw [e,C2i h]
 rfl
theorem C6Q (G:Nat) (t:Int):(sit v G t).length≤G:=by
 unfold sit
 rw [List.length_map]
 exact Nat.le_trans (List.length_filter_le _ _) (by simp)
theorem A0g.D3R {t g:Int} (hg:g ∈ sit v p.A8.length t):0≤g∧g < (p.A8.length:Int):=by
 unfold sit at hg
 obtain ⟨k,hk,rfl⟩:=List.mem_map.1 hg
 have:=List.mem_range.1 (List.mem_filter.1 hk).1
 omega
theorem A0g.each (c:List Int→Fl) (d:σ→List Int→Option σ) (hd:∀ s l,l.length≤p.A8.length→(∀ g:Int,g ∈ l→0≤g∧g < (p.A8.length:Int))→d s l=run f s (c l)):A9q v r d s=run f s (flT v r p.C8.length p.A8.length c):=by
 have hT:=h.vld.h.len
 unfold A9q
 have key:=B6g (f:=A4D v r d) (fun (s:σ) (i:Nat)=>(s,(i:Int))) id (N:=p.C8.length) (fun s (t:Nat)=>if decide (r.J2=(⟨#[]⟩:ByteArray)) || decide (r.J2=(tab v t).F7) then run f s (c (sit v p.A8.length t)) else some s) (fun s t ht=>by
  simp only [A4D,B6x,Dt (show (t:Int) < (v.G5.P6.C8.length:Int) by rw [h.j.given]; omega),Cy,h.D0H (t:=t) (by omega) (by omega),Oz,I4 (show t < 9223372036854775807 by omega),h.D3Q,hd s _ (C6Q h _ t) (fun g hg=>h.D3R hg)]
  cases decide (r.J2=(⟨#[]⟩:ByteArray)) with
  | true=>rfl
  | false=>cases decide (r.J2=(tab v t).F7) <;> rfl) (fun s=>by simp [A4D,h.j.given]) s (fuel' (n:=p.C8.length) (by omega))
 have key':iter (A4D v r d) FUEL (s,(0:Int))=_:=key
 rw [key',Option.map_id,A0i]
 unfold flT
 have e:∀ l:List Nat,run f s (l.flatMap fun (t:Nat)=>c (sit v p.A8.length t))=A0e (fun s (t:Nat)=>run f s (c (sit v p.A8.length t))) s l:=fun l=>B5Q _ _ l s
 rw [e,A6o]
 rfl
theorem A0g.host:B4a v r f s=run f s (flT v r p.C8.length p.A8.length (C6i v)):=by
 have hg:=h.g64
 unfold B4a
 rw [h.each f s (C6i v),A0i]
 intro s l hl hb
 have key:=A1G (f:=A4m l v s) l (fun i x=>if (gst v x).A0s then some (.inr s) else none) (.inl ():Unit⊕σ) (fuel' (n:=l.length) (by omega)) (fun i x hi=>by
  have hlt:=Q6 hi
  have hx:=hb x (A0T hi)
  simp only [A4m,Dt (show (i:Int) < (l.length:Int) by omega),Cy,K9 hi,Oz,h.gG hx.1 hx.2,I4 (show i < 9223372036854775807 by omega)]
  cases (gst v x).A0s <;> rfl) (by simp [A4m])
 unfold B0x C6i
 rw [key,Oz,B0j _ (fun x=>!(gst v x).A0s) (.inr s) _ (fun i x=>by cases (gst v x).A0s <;> rfl)]
 cases hq:l.any fun g=>(gst v g).A0s with
 | true=>
  have:(l.all fun x=>!(gst v x).A0s)=false:=by rw [←Bool.not_eq_true]; intro hh; rw [List.any_eq_true] at hq; obtain ⟨x,hx,hd⟩:=hq; have:=List.all_eq_true.1 hh x hx; rw [hd] at this; cases this
  rw [this]; rfl
 | false=>
  have:(l.all fun x=>!(gst v x).A0s)=true:=by rw [List.all_eq_true]; intro x hx; have:=List.any_eq_false.1 hq x hx; simpa using this
  rw [this]
  by_cases hl0:0 < l.length
  ·simp only [if_true,Dt (show (0:Int) < (l.length:Int) by omega),Cy,A0i,if_pos hl0,A4p,Bool.false_eq_true,if_false]
  ·simp only [if_true,Df (show ¬ (0:Int) < (l.length:Int) by omega),Cn,if_neg hl0,C9X,Bool.false_eq_true,if_false]
theorem A0g.fill (hr:RF p r):B4i v r f s=run f s (flT v r p.C8.length p.A8.length (C5f r)):=by
 have hg:=h.g64
 have hn:=hr.n
 unfold B4i
 rw [h.each f s (C5f r),A0i]
 intro s l hl hb
 unfold B0J C5f
 by_cases hq:(l.length:Int) < r.fN
 ·rw [Dt hq,if_pos hq,Cy,A0N (by omega) (by omega),Oz,A0i,A4p]
 ·rw [Df hq,if_neg hq]
  rfl
theorem A0g.limit (hr:RF p r):B2o v r f s=run f s (flT v r p.C8.length p.A8.length (C9n r)):=by
 have hg:=h.g64
 have hn:=hr.n
 unfold B2o
 rw [h.each f s (C9n r),A0i]
 intro s l hl hb
 unfold A8X C9n
 by_cases hq:r.fN < (l.length:Int)
 ·rw [Dt hq,if_pos hq,Cy,A0N (by omega) (by omega),Oz,A0i,A4p]
 ·rw [Df hq,if_neg hq]
  rfl
theorem A0g.C7d:A6J v r f s=run f s (flP p.A8.length (A8N v r (D0D v))):=by
 unfold A6J
 rw [h.pairs f s (D0D v),A0i]
 intro a b a0 a1 b0 b1 ha hb
 unfold A4u D0D
 simp only [h.gG a0 a1,h.gG b0 b1,Oz,h.bsG a0 a1 ha b0 b1]
 cases decide (0 < (gst v a).A0r) <;> cases decide ((gst v a).A0r=(gst v b).A0r) <;> rfl
theorem A0g.mix:B7i v r f s=run f s (flP p.A8.length (A8N v r (D0K v))):=by
 unfold B7i
 rw [h.pairs f s (D0K v),A0i]
 intro a b a0 a1 b0 b1 ha hb
 unfold B2k D0K
 simp only [h.gG a0 a1,h.gG b0 b1,Oz,h.bsG a0 a1 ha b0 b1]
 cases decide ((gst v a).W9=(⟨#[]⟩:ByteArray)) <;> cases decide ((gst v a).W9=(gst v b).W9) <;> rfl
theorem A0g.D2z:B1V v r f s=run f s (flP p.A8.length (A8N v r (C2M v))):=by
 unfold B1V
 rw [h.pairs f s (C2M v),A0i]
 intro a b a0 a1 b0 b1 ha hb
 obtain ⟨l,e1,e2⟩:=h.D2J a0 a1 b0 b1
 unfold A8Q C2M
 simp only [e1,e2,Oz,h.D1c a0 a1 ha b0 b1]
 cases decide (tie v a b=2) <;> rfl
theorem A0g.D2g:B0N v r f s=run f s (if p.R8.length=0 then [] else flP p.A8.length (A8N v r (D0i v))):=by
 unfold B0N
 by_cases hc:p.R8.length=0
 ·rw [if_pos hc,Dt (by rw [h.j.given]; omega)]
  rfl
 ·rw [if_neg hc,Df (by rw [h.j.given]; omega),Cn]
  rw [h.pairs f s (D0i v),A0i]
  intro a b a0 a1 b0 b1 ha hb
  have pa:=(h.pB a0 a1).2
  have pb:=(h.pB b0 b1).2
  unfold A7Z D0i
  simp only [h.cG hc a0 a1,h.cG hc b0 b1,Oz]
  by_cases hq:cls v b < cls v a
  ·simp only [Dt hq,Cy,if_pos hq,Oz,h.cG hc a0 a1,h.cG hc b0 b1,h.pG a0 a1,h.pG b0 b1,h.lG ha pa,h.lG hb pb]
  ·simp only [Df hq,Cn,if_neg hq,Oz,h.cG hc a0 a1,h.cG hc b0 b1,h.pG a0 a1,h.pG b0 b1,h.lG ha pa,h.lG hb pb]
   cases decide (cls v a < cls v b) <;> rfl
end
def FL (v:F6) (r:F3) (T G C:Nat):Fl:=
 if r.H6=1 then A8k v r (D1D v r) else
 if r.H6=2 then A8k v r (fun a b=>!clo v v.G5.Y5 a b) else
 if r.H6=3 then A8k v r (fun a b=>!clo v v.G5.A0D a b) else
 if r.H6=4 then A8k v r (fun a b=>!(far v a b).isSome || decide (r.fN < (far v a b).getD 0)) else
 if r.H6=5 then A8k v r (fun a b=>!decide (tb v (pt v a)=tb v (pt v b))) else
 if r.H6=6 then D1o v r else
 if r.H6=7 then B7z v r else
 if r.H6=8 then flP G (A8N v r (D0D v)) else
 if r.H6=9 then flT v r T G (C6i v) else
 if r.H6=10 then flS G (C3j v r) else
 if r.H6=11 then flS G (C3A v r) else
 if r.H6=12 then flP G (A8N v r (C2M v)) else
 if r.H6=13 then flP G (C4t v r) else
 if r.H6=14 then (if C=0 then [] else flP G (A8N v r (D0i v))) else
 if r.H6=15 then flT v r T G (C5f r) else
 if r.H6=16 then flT v r T G (C9n r) else
 if r.H6=17 then flS G (B6q v r) else flP G (A8N v r (D0K v))
theorem A0g.find {v:F6} {p:C9} {N:Nat} (h:A0g v p N) {r:F3} (hr:RF p r) {σ:Type} (f:σ→Int→List Int→Option σ) (s:σ):∃ K,lkM v.G5.B7L r.H6 zK=some (K,true)∧B3T K.C4y v r f s=run f s (FL v r p.C8.length p.A8.length p.R8.length):=by
 have hk:=hr.k
 rw [h.j.kinds]
 have:r.H6=1∨r.H6=2∨r.H6=3∨r.H6=4∨r.H6=5∨r.H6=6∨r.H6=7∨r.H6=8∨r.H6=9∨r.H6=10∨r.H6=11∨r.H6=12∨r.H6=13∨r.H6=14∨r.H6=15∨r.H6=16∨r.H6=17∨r.H6=18:=by omega
 unfold FL
 rcases this with e | e | e | e | e | e | e | e | e | e | e | e | e | e | e | e | e | e
 ·rw [e]; exact ⟨_,D1C,h.apart hr f s (by omega)⟩
 ·rw [e]; exact ⟨_,D1T,h.side hr f s (by omega)⟩
 ·rw [e]; exact ⟨_,D2c,h.D3O hr f s (by omega)⟩
 ·rw [e]; exact ⟨_,D1N,h.within hr f s (by omega)⟩
 ·rw [e]; exact ⟨_,D2i,h.together hr f s (by omega)⟩
 ·rw [e]; exact ⟨_,D1L,h.at_ f s hr (by omega)⟩
 ·rw [e]; exact ⟨_,C9Z,h.seat f s hr (by omega)⟩
 ·rw [e]; exact ⟨_,D1p,h.C7d f s⟩
 ·rw [e]; exact ⟨_,D1Z,h.host f s⟩
 ·rw [e]; exact ⟨_,C8m,h.reach f s⟩
 ·rw [e]; exact ⟨_,C7Z,h.speak f s⟩
 ·rw [e]; exact ⟨_,C8t,h.D2z f s⟩
 ·rw [e]; exact ⟨_,C8M,h.company f s⟩
 ·rw [e]; exact ⟨_,C8v,h.D2g f s⟩
 ·rw [e]; exact ⟨_,C8J,h.fill f s hr⟩
 ·rw [e]; exact ⟨_,C8Z,h.limit f s hr⟩
 ·rw [e]; exact ⟨_,C8r,h.C9V f s⟩
 ·rw [e]; exact ⟨_,C7X,h.mix f s⟩
end Go.Pl
namespace Go.Pl
open Go Go.Sl Go.Dm
theorem D0l:((List.range 385).all fun n=>decide (bits_Mul (1:Int) (n:Int)=some ((0:Int),(n:Int))))=true:=by kernel_rfl
theorem mul_one {n:Nat} (h:n≤384):bits_Mul (1:Int) (n:Int)=some ((0:Int),(n:Int)):=of_decide_eq_true (List.all_eq_true.1 D0l n (List.mem_range.2 (by omega)))
theorem D2P {n:Nat} (h:n≤384):A0P .u64 (n:Int)=some (n:Int):=by
 unfold A0P
 rw [Dt (wrap_u64 (by omega) (by omega))]
 rfl
theorem D3L {n:Nat} (h:n≤384):A0P .i64 (n:Int)=some (n:Int):=by
 unfold A0P
 rw [Dt (wrap_i64 (by omega) (by omega))]
 rfl
theorem C6e (x:Int) {n:Nat} (h:n≤384):A6h [x] (n:Int)=some (List.replicate n x):=by
 have e0:A0P .u64 ((([x]:List Int).length:Nat):Int)=some (1:Int):=D2P (n:=1) (by omega)
 have hm:mkL (n:Int) (0:Int)=some (List.replicate n (0:Int)):=by
  have:mkL (n:Int) (0:Int)=(bif Nat.ble n 1073741824 then some (List.replicate n (0:Int)) else none):=rfl
  rw [this,Nat.ble_eq_true_of_le (by omega)]
  rfl
 unfold A6h B6k
 rw [Df (show ¬ (n:Int) < 0 by omega),Cn,Oz,e0,Oz,D2P h,Oz,mul_one h,Oz]
 simp only
 rw [show decide ((0:Int) < 0)=false from rfl,Cn,Oz,Df (show ¬ (9223372036854775807:Int) < (n:Int) by omega),Cn,Oz,D3L h,Oz,hm,Oz]
 by_cases hn:n=0
 ·subst hn; rfl
 ·have hc:cpL (List.replicate n (0:Int)) 0 (List.replicate n (0:Int)).length [x]=some (List.replicate 1 x ++ List.replicate (n - 1) 0,((1:Nat):Int)):=by
   unfold cpL
   have:min ([x]:List Int).length (List.replicate n (0:Int)).length=1:=by simp; omega
   rw [this]
   simp [A3k]
  rw [hc,Oz]
  simp only
  obtain ⟨r,hr,hq⟩:=M8 (f:=A9d) (fun s=>∃ k:Nat,s.2=(k:Int)∧1≤k∧k≤n∧s.1=List.replicate k x ++ List.replicate (n - k) 0) (fun s=>n - s.2.toNat) (fun r=>r=List.replicate n x) (fun s hs=>by
   obtain ⟨l,q⟩:=s
   obtain ⟨k,rfl,h1,hk,hl⟩:=hs
   simp only at hl
   subst hl
   have hlen:(List.replicate k x ++ List.replicate (n - k) (0:Int)).length=n:=by simp; omega
   simp only [A9d,B7k,hlen]
   by_cases hlt:k < n
   ·left
    have b1:bdV (k:Int) (n:Int) (n:Int)=some ():=by unfold bdV; rw [Dt (by omega),Dt (by omega),Dt (by omega)]; rfl
    have b2:bdV (0:Int) (k:Int) (n:Int)=some ():=by unfold bdV; rw [Dt (by omega),Dt (by omega),Dt (by omega)]; rfl
    rw [Dt (show (k:Int) < (n:Int) by omega),Cy,b1,b2]
    simp only [Oz,Int.toNat_natCast,Int.toNat_zero,List.drop_zero,Nat.sub_zero]
    have e1:List.take k (List.replicate k x ++ List.replicate (n - k) (0:Int))=List.replicate k x:=by simp
    have e2:cpL (List.replicate k x ++ List.replicate (n - k) (0:Int)) k (n - k) (List.replicate k x)=some (List.replicate (k + min k (n - k)) x ++ List.replicate (n - (k + min k (n - k))) 0,((min k (n - k):Nat):Int)):=by
     unfold cpL
     simp only [List.length_replicate,List.take_replicate,A3k]
     rw [show min (min k (n - k)) k=min k (n - k) by omega]
     congr 2
     rw [List.take_left' (by simp)]
     rw [List.drop_append]
     simp only [List.length_replicate,List.drop_replicate]
     rw [show k - (k + min k (n - k))=0 by omega,List.replicate_zero,List.nil_append,←List.replicate_append_replicate (n:=k) (m:=min k (n - k))]
     rw [show n - k - (k + min k (n - k) - k)=n - (k + min k (n - k)) by omega]
    rw [e1,e2,Oz,A0N (by omega) (by omega)]
    exact ⟨_,rfl,⟨k + min k (n - k),by simp,by omega,by omega,rfl⟩,by simp; omega⟩
   ·right
    have:k=n:=by omega
    subst this
    rw [Df (by omega)]
    exact ⟨_,rfl,by simp⟩) FUEL (List.replicate 1 x ++ List.replicate (n - 1) 0,((1:Nat):Int)) ⟨1,rfl,by omega,by omega,rfl⟩ (fuel' (by simp; omega))
  rw [hr,hq]
  rfl
theorem C9R {n:Nat} (h:n≤384):A6h [(-1:Int)] (n:Int)=some (List.replicate n (-1:Int)):=C6e _ h
def C6Z (N:Nat) (part:List Int):List Int:=(List.range N).map fun (s:Nat)=>Z6 (fun x=>decide (x=(s:Int))) 0 part
def mkv (j:P9) (part:List Int):F6:=⟨j,part,C6Z j.A0d.length part⟩
theorem C2b {α:Type} (p:α→Bool) (x:α):∀ (l:List α) (i:Nat),Z6 p i (l ++ [x])=if 0≤Z6 p i l then Z6 p i l else if p x then ((i + l.length:Nat):Int) else -1:=by
 intro l
 induction l with
 | nil=>intro i; simp [Z6]
 | cons y l ih=>
  intro i
  simp only [List.cons_append,Z6]
  by_cases hy:p y=true
  ·simp [hy]
  ·simp only [hy,Bool.false_eq_true,if_false,ih,List.length_cons]
   rw [show i + 1 + l.length=i + (l.length + 1) by omega]
theorem C2T {p:C9} (hv:Vld p) {j:P9} {N:Nat} (hj:JOk j p N) {part:List Int} (hP:A2I N p.A8.length part):A0g (mkv j part) p N:=by
 refine ⟨hv,hj,hP,?_,?_⟩
 ·simp [mkv,C6Z,hj.tb.tbl]
 ·intro s hs
  simp [mkv,C6Z,hj.tb.tbl,hs]
theorem look_ok {p:C9} (hv:Vld p) {j:P9} {N:Nat} (hj:JOk j p N) {part:List Int} (hP:A2I N p.A8.length part):A7h j part=some (some (mkv j part)):=by
 have hN:N≤384:=by have h1:=hj.n; have:=A5K hv.h; omega
 have hG:=hv.B2y
 have hpl:=hP.len
 have hnone:A5J j=some false:=by
  unfold A5J
  first | rfl | (rw [hj.kinds]; rfl)
 have e1:decide ((part.length:Int)=(j.P6.A8.length:Int))=true:=by rw [hj.given,hP.len]; exact Dt rfl
 unfold A7h
 simp only [hnone,Oz,Cn,e1,Bool.not_true]
 rw [hj.tb.tbl,C9R hN,Oz]
 obtain ⟨r,hr,g,rfl,hl,hg⟩:=M8 (f:=A7F j part)
  (fun s=>∃ k:Nat,s.2=(k:Int)∧k≤part.length∧s.1.length=N∧∀ q:Nat,q < N→s.1[q]?=some (Z6 (fun x=>decide (x=(q:Int))) 0 (part.take k)))
  (fun s=>part.length - s.2.toNat)
  (fun r=>∃ g,r=.inl g∧g.length=N∧∀ q:Nat,q < N→g[q]?=some (Z6 (fun x=>decide (x=(q:Int))) 0 part)) (fun s hs=>by
   obtain ⟨g,i⟩:=s
   obtain ⟨k,rfl,hk,hl,hg⟩:=hs
   simp only at hl hg
   simp only [A7F]
   by_cases hlt:k < part.length
   ·left
    rw [Dt (show (k:Int) < (part.length:Int) by omega),Cy]
    have hx:=Lg hlt
    have hb:=hP.bd _ (List.getElem_mem hlt)
    have hone:=hP.one
    generalize part[k]=x at hx hb
    simp only [B5n,K9 hx,Oz,Df (show ¬ x < -1 by omega),Cn,Df (show ¬ (j.A0d.length:Int)≤x by rw [hj.tb.tbl]; omega)]
    have htk:part.take (k + 1)=part.take k ++ [x]:=A7m hx
    by_cases h0:0≤x
    ·obtain ⟨n,rfl⟩:=Zn h0
     have hn:n < N:=by omega
     have hgn:=hg n hn
     have hfree:Z6 (fun y=>decide (y=(n:Int))) 0 (part.take k)=-1:=by
      refine A9G _ _ 0 ?_
      rw [List.any_eq_false]
      intro y hy
      obtain ⟨i,hi,rfl⟩:=List.getElem_of_mem hy
      have hi':i < k:=by rw [List.length_take] at hi; omega
      intro hd
      have hd':=of_decide_eq_true hd
      have h1:part[i]?=some (n:Int):=by
       rw [←hd',List.getElem_take,Lg (by omega)]
      have:=hone i k (n:Int) hi' h1 hx
      omega
     rw [hfree] at hgn
     simp only [Dt h0,Cy,K9 hgn,Oz]
     rw [show decide ((0:Int)≤-1)=false from rfl]
     simp only [Cn,I4 (show k < 9223372036854775807 by omega),Oz,Int.toNat_natCast]
     refine ⟨_,rfl,⟨k + 1,rfl,by omega,by simp [hl],?_⟩,by simp; omega⟩
     intro q hq
     simp only [htk,C2b,List.length_take]
     by_cases hqn:q=n
     ·subst hqn
      rw [hfree,List.getElem?_set_self (by omega)]
      simp
      omega
     ·rw [List.getElem?_set_ne (by omega),hg q hq]
      have:¬ ((n:Int)=(q:Int)):=by omega
      simp only [Df this]
      by_cases hp0:0≤Z6 (fun x=>decide (x=(q:Int))) 0 (part.take k)
      ·rw [if_pos hp0]
      ·rw [if_neg hp0]
       have h2:=B1A (fun x=>decide (x=(q:Int))) (part.take k) 0
       rw [A9G _ _ 0 (h2.mp (by omega))]
       rfl
    ·simp only [Df h0,Cn,I4 (show k < 9223372036854775807 by omega),Oz]
     refine ⟨_,rfl,⟨k + 1,rfl,by omega,hl,?_⟩,by simp; omega⟩
     intro q hq
     rw [hg q hq]
     simp only [htk,C2b]
     have:¬ (x=(q:Int)):=by omega
     simp only [Df this]
     by_cases hp0:0≤Z6 (fun x=>decide (x=(q:Int))) 0 (part.take k)
     ·rw [if_pos hp0]
     ·rw [if_neg hp0]
      have h2:=B1A (fun x=>decide (x=(q:Int))) (part.take k) 0
      rw [A9G _ _ 0 (h2.mp (by omega))]
      rfl
   ·right
    have:k=part.length:=by omega
    subst this
    rw [Df (by omega),Cn]
    exact ⟨_,rfl,g,rfl,hl,fun q hq=>by rw [hg q hq,List.take_length]⟩) FUEL (List.replicate N (-1),0) ⟨0,rfl,Nat.zero_le _,by simp,fun q hq=>by simp [hq,Z6]⟩ (fuel' (show part.length - ((0:Int)).toNat≤1000000 by omega))
 rw [hr]
 simp only [Oz]
 have:g=C6Z j.A0d.length part:=by
  refine List.ext_getElem? fun q=>?_
  rw [hj.tb.tbl]
  by_cases hq:q < N
  ·rw [hg q hq]; simp [C6Z,hq]
  ·rw [List.getElem?_eq_none (by omega),List.getElem?_eq_none (by simp [C6Z]; omega)]
 rw [this]
 rfl
end Go.Pl
namespace Go.Pl
open Go Go.Sl Go.Dm
def C3O (l:Fl):Int:=(l.map (·.1)).sum
theorem C1Y (x:Int×List Int) (l:Fl):C3O (x::l)=x.1 + C3O l:=by simp [C3O]
structure FB (l:Fl) (n:Nat):Prop where
 len:l.length≤n
 b:∀ x ∈ l,1≤x.1∧x.1≤64
theorem C6p:∀ {l:Fl} {n:Nat},FB l n→0≤C3O l∧C3O l≤64 * l.length
 | [],n,_=>by simp [C3O]
 | x::l,n,h=>by
  have h1:=h.b x (List.mem_cons_self ..)
  have h2:=C6p (l:=l) (n:=l.length) ⟨Nat.le_refl _,fun y hy=>h.b y (List.mem_cons_of_mem _ hy)⟩
  rw [C1Y,List.length_cons]
  omega
theorem C6N:∀ {l:Fl} {n:Nat},FB l n→∀ s:Int,0≤s→s + 64 * l.length≤1000000000→run (fun s_ y0 y1=>A0W y0 y1 s_) s l=some (s + C3O l)
 | [],n,_,s,_,_=>by simp [run,A0e,C3O]
 | x::l,n,h,s,h0,h1=>by
  have h2:=h.b x (List.mem_cons_self ..)
  rw [List.length_cons] at h1
  have ih:=C6N (l:=l) (n:=l.length) ⟨Nat.le_refl _,fun y hy=>h.b y (List.mem_cons_of_mem _ hy)⟩ (s + x.1) (by omega) (by omega)
  have e:run (fun s_ y0 y1=>A0W y0 y1 s_) s (x::l)=Option.bind (A0W x.1 x.2 s) fun s'=>run (fun s_ y0 y1=>A0W y0 y1 s_) s' l:=rfl
  rw [e]
  unfold A0W at ih ⊢
  rw [A2p (by omega) (by omega),Oz,Oz,ih,C1Y]
  congr 1
  omega
theorem FB.nil {n:Nat}:FB [] n:=⟨Nat.zero_le _,fun x hx=>by cases hx⟩
theorem FB.one {n:Nat} (h:1≤n) (l:List Int):FB [(1,l)] n:=⟨by simpa using h,fun x hx=>by rw [List.mem_singleton] at hx; subst hx; exact ⟨Int.le_refl _,by show (1:Int)≤64; decide⟩⟩
theorem FB.ite {n:Nat} {c:Prop} [Decidable c] {a b:Fl} (ha:FB a n) (hb:FB b n):FB (if c then a else b) n:=by
 by_cases h:c
 ·rw [if_pos h]; exact ha
 ·rw [if_neg h]; exact hb
theorem FB.le {l:Fl} {m n:Nat} (h:FB l m) (hm:m≤n):FB l n:=⟨Nat.le_trans h.len hm,h.b⟩
theorem FB.flS (G:Nat) (c:Nat→Bool):FB (flS G c) G:=by
 refine ⟨?_,?_⟩
 ·unfold Go.Pl.flS
  rw [List.length_map]
  exact Nat.le_trans (List.length_filter_le _ _) (by simp)
 ·intro x hx
  unfold Go.Pl.flS at hx
  obtain ⟨g,_,rfl⟩:=List.mem_map.1 hx
  exact ⟨Int.le_refl _,by show (1:Int)≤64; decide⟩
theorem A1b {τ:Type} (l:List τ) (c:τ→Fl) {n:Nat} (h:∀ x ∈ l,(c x).length≤n):(l.flatMap c).length≤l.length * n:=by
 induction l with
 | nil=>simp
 | cons x l ih=>
  have h1:=h x (List.mem_cons_self ..)
  have h2:=ih fun y hy=>h y (List.mem_cons_of_mem _ hy)
  rw [List.flatMap_cons,List.length_append,List.length_cons,Nat.add_mul]
  omega
theorem FB.flP (G:Nat) (c:Nat→Nat→Bool):FB (flP G c) (G * G):=by
 refine ⟨?_,?_⟩
 ·unfold Go.Pl.flP
  have:=A1b (List.range G) (fun a=>((List.range' (a + 1) (G - (a + 1))).filter (c a)).map fun (b:Nat)=>((1:Int),[(a:Int),(b:Int)])) (n:=G) (fun a _=>by
   rw [List.length_map]
   exact Nat.le_trans (List.length_filter_le _ _) (by simp))
  simpa using this
 ·intro x hx
  unfold Go.Pl.flP at hx
  obtain ⟨a,_,hx⟩:=List.mem_flatMap.1 hx
  obtain ⟨b,_,rfl⟩:=List.mem_map.1 hx
  exact ⟨Int.le_refl _,by show (1:Int)≤64; decide⟩
theorem FB.flT {v:F6} {r:F3} {T G:Nat} {c:List Int→Fl} (hc:∀ t,FB (c (sit v G t)) 1):FB (flT v r T G c) T:=by
 refine ⟨?_,?_⟩
 ·unfold Go.Pl.flT
  have:=A1b ((List.range T).filter fun (t:Nat)=>decide (r.J2=(⟨#[]⟩:ByteArray)) || decide (r.J2=(tab v t).F7)) (fun (t:Nat)=>c (sit v G t)) (n:=1) (fun t _=>(hc t).len)
  have h2:=List.length_filter_le (fun (t:Nat)=>decide (r.J2=(⟨#[]⟩:ByteArray)) || decide (r.J2=(tab v t).F7)) (List.range T)
  simp only [List.length_range] at h2
  omega
 ·intro x hx
  unfold Go.Pl.flT at hx
  obtain ⟨t,_,hx⟩:=List.mem_flatMap.1 hx
  exact (hc t).b x hx
theorem FB.two (v:F6) (r:F3) (c:Int→Int→Bool):FB (A8k v r c) 1:=FB.ite (FB.one (Nat.le_refl _) _) FB.nil
section
variable {v:F6} {p:C9} {N:Nat} (h:A0g v p N) {r:F3} (hr:RF p r)
include h hr
theorem A0g.fb:FB (FL v r p.C8.length p.A8.length p.R8.length) 4096:=by
 have hg:=h.g64
 have hT:=h.vld.h.len
 have hn:=hr.n
 have hGG:p.A8.length * p.A8.length≤4096:=Nat.mul_le_mul hg hg
 have s1:∀ c,FB (flS p.A8.length c) 4096:=fun c=>(FB.flS _ c).le (by omega)
 have s2:∀ c,FB (flP p.A8.length c) 4096:=fun c=>(FB.flP _ c).le hGG
 have s3:∀ c:List Int→Fl,(∀ t,FB (c (sit v p.A8.length t)) 1)→FB (flT v r p.C8.length p.A8.length c) 4096:=fun c hc=>(FB.flT hc).le (by omega)
 have s0:∀ c,FB (A8k v r c) 4096:=fun c=>(FB.two v r c).le (by omega)
 have sl:∀ t,(sit v p.A8.length t).length≤64:=fun t=>Nat.le_trans (C6Q h _ t) hg
 unfold FL
 refine FB.ite (s0 _)<|FB.ite (s0 _)<|FB.ite (s0 _)<|FB.ite (s0 _)<|FB.ite (s0 _)<|FB.ite ?_<|FB.ite ?_<|FB.ite (s2 _)<|FB.ite (s3 _ fun t=>?_)<|FB.ite (s1 _)<|FB.ite (s1 _)<|FB.ite (s2 _)<|FB.ite (s2 _)<|FB.ite (FB.ite FB.nil (s2 _))<|FB.ite (s3 _ fun t=>?_)<|FB.ite (s3 _ fun t=>?_)<|FB.ite (s1 _) (s2 _)
 ·exact FB.ite (FB.one (by omega) _) FB.nil
 ·exact FB.ite (FB.one (by omega) _) FB.nil
 ·exact FB.ite FB.nil (FB.ite (FB.one (Nat.le_refl _) _) FB.nil)
 ·unfold C5f
  by_cases hq:((sit v p.A8.length t).length:Int) < r.fN
  ·rw [if_pos hq]
   exact ⟨Nat.le_refl _,fun x hx=>by rw [List.mem_singleton] at hx; subst hx; simp only; omega⟩
  ·rw [if_neg hq]; exact FB.nil
 ·unfold C9n
  have:=sl t
  by_cases hq:r.fN < ((sit v p.A8.length t).length:Int)
  ·rw [if_pos hq]
   exact ⟨Nat.le_refl _,fun x hx=>by rw [List.mem_singleton] at hx; subst hx; simp only; omega⟩
  ·rw [if_neg hq]; exact FB.nil
end
def A1h (v:F6) (r:F3):Int:=C3O (FL v r v.G5.P6.C8.length v.G5.P6.A8.length v.G5.P6.R8.length)
def B9K (v:F6):Nat:=(List.range v.R5.length).countP fun (g:Nat)=>decide (pt v g < 0)
def C4e (v:F6):Nat:=(List.range v.R5.length).countP fun (g:Nat)=>decide (pt v g < 0) && (gst v g).A0s
def A3Z (v:F6) (r:F3):Int:=
 if r.H6=9 then max (A1h v r - C4e v) 0 else if r.H6=15 then max (A1h v r - B9K v) 0 else if r.H6=11 then (if 0 < B9K v then 0 else A1h v r) else A1h v r
section
variable {v:F6} {p:C9} {N:Nat} (h:A0g v p N)
include h
theorem A0g.rules {i:Nat} {r:F3} (hi:p.F9[i]?=some r):RF p r∧H5 v.G5.P6.F9 (i:Int)=some r:=⟨h.vld.rf (A0T hi),by rw [h.j.given]; exact K9 hi⟩
theorem A0g.fbd {r:F3} (hr:RF p r):0≤A1h v r∧A1h v r≤262144:=by
 have hb:=h.fb hr
 have:=C6p hb
 have:=hb.len
 unfold A1h
 rw [h.j.given]
 omega
theorem A0g.faults {i:Nat} {r:F3} (hi:p.F9[i]?=some r):A4j v (i:Int)=some (A1h v r):=by
 obtain ⟨hr,hg⟩:=h.rules hi
 obtain ⟨K,hK,hf⟩:=h.find hr (fun (s_:Int) y0 y1=>A0W y0 y1 s_) (0:Int)
 have hb:=h.fb hr
 have hl:=hb.len
 unfold A4j A1h
 rw [hg,Oz]
 change (Option.bind (lkM v.G5.B7L r.H6 zK) _)=_
 rw [hK,Oz]
 simp only [Oz]
 rw [hf,C6N hb 0 (by omega) (by omega),h.j.given]
 simp
theorem A0g.free:iter (A2m v) FUEL ((0:Int),(0:Int),(0:Int))=some ((B9K v:Int),(C4e v:Int)):=by
 have hg:=h.g64
 have key:=C0w (f:=A2m v) (fun (q:Nat×Nat) (i:Nat)=>((i:Int),(q.1:Int),(q.2:Int))) (fun q=>((q.1:Int),(q.2:Int))) (N:=v.R5.length) (fun q g=>if decide (pt v g < 0) then (q.1 + 1,if (gst v g).A0s then q.2 + 1 else q.2) else q) (fun q i=>q.1≤i∧q.2≤i) (a:=(0,0)) ⟨Nat.le_refl _,Nat.le_refl _⟩ (fun q i hi hq=>by
  obtain ⟨a,b⟩:=q
  simp only at hq
  have hi':i < p.A8.length:=by rw [←h.pl]; exact hi
  simp only [A2m,B4O,Dt (show (i:Int) < (v.R5.length:Int) by omega),Cy,h.pG (g:=i) (by omega) (by omega),Oz,I4 (show i < 9223372036854775807 by omega),I4 (show a < 9223372036854775807 by omega),I4 (show b < 9223372036854775807 by omega),h.gG (g:=i) (by omega) (by omega)]
  by_cases h0:pt v i < 0
  ·simp only [Dt h0,Cy,if_true]
   cases (gst v i).A0s with
   | true=>exact ⟨rfl,by simp; omega⟩
   | false=>exact ⟨rfl,by simp; omega⟩
  ·simp only [Df h0,Cn]
   exact ⟨rfl,by simp; omega⟩) (fun q hq=>by simp [A2m]) (fuel' (n:=v.R5.length) (by rw [h.pl]; omega))
 have key':iter (A2m v) FUEL ((0:Int),(0:Int),(0:Int))=_:=key
 rw [key']
 have e:∀ (l:List Nat) (a b:Nat),l.foldl (fun (q:Nat×Nat) (g:Nat)=>if decide (pt v g < 0) then (q.1 + 1,if (gst v g).A0s then q.2 + 1 else q.2) else q) (a,b)=(a + l.countP (fun (g:Nat)=>decide (pt v g < 0)),b + l.countP (fun (g:Nat)=>decide (pt v g < 0) && (gst v g).A0s)):=by
  intro l
  induction l with
  | nil=>intro a b; rfl
  | cons g l ih=>
   intro a b
   simp only [List.foldl_cons,List.countP_cons]
   cases decide (pt v g < 0) with
   | true=>
    simp only [if_true,ih,Bool.true_and]
    cases (gst v g).A0s with
    | true=>simp; omega
    | false=>simp; omega
   | false=>
    simp only [Bool.false_eq_true,if_false,ih,Bool.false_and]
    simp
 rw [e]
 unfold B9K C4e
 simp
theorem A0g.least {i:Nat} {r:F3} (hi:p.F9[i]?=some r):A9r v (i:Int)=some (A3Z v r):=by
 obtain ⟨hr,hg⟩:=h.rules hi
 have hb:=h.fbd hr
 have hgg:=h.g64
 have hl:B9K v≤64:=by unfold B9K; exact Nat.le_trans List.countP_le_length (by simp [h.pl]; omega)
 have hh:C4e v≤64:=by unfold C4e; exact Nat.le_trans List.countP_le_length (by simp [h.pl]; omega)
 unfold A9r
 rw [h.faults hi,Oz,h.free,Oz]
 simp only [B4I,hg,Oz]
 unfold A3Z
 by_cases h9:r.H6=9
 ·rw [Dt h9,if_pos h9,Cy,A2p (by omega) (by omega),Oz]
 ·rw [Df h9,if_neg h9,Cn]
  by_cases h15:r.H6=15
  ·rw [Dt h15,if_pos h15,Cy,A2p (by omega) (by omega),Oz]
  ·rw [Df h15,if_neg h15,Cn]
   by_cases h11:r.H6=11
   ·rw [Dt h11,if_pos h11,Cy]
    by_cases h0:0 < B9K v
    ·rw [Dt (by omega),if_pos h0]; rfl
    ·rw [Df (by omega),if_neg h0,Cn,Int.max_eq_left hb.1]
   ·rw [Df h11,if_neg h11,Cn,Int.max_eq_left hb.1]
end
def C2y (v:F6) (rs:List F3):Bool:=rs.any fun r=>decide (r.J3=0) && decide (0 < A3Z v r)
def C3J (rs:List F3) (c:F3→Int):Int:=(rs.map fun r=>if 0 < r.J3 then r.J3 * c r else 0).sum
section
variable {p:C9} (hv:Vld p) {j:P9} {N:Nat} (hj:JOk j p N) {part:List Int} (hP:A2I N p.A8.length part)
include hv hj hP
theorem D0m:∃ i:Int,B2a j part=some (i,C2y (mkv j part) p.F9):=by
 have h:=C2T hv hj hP
 have hl:=hv.D2m
 unfold B2a
 rw [look_ok hv hj hP,Oz]
 simp only [Option.isNone_some,Cn,Oz]
 have key:=A1G (f:=A5f (mkv j part)) p.F9 (fun i r=>if decide (r.J3=0) && decide (0 < A3Z (mkv j part) r) then some (.inr ((i:Int),true)) else none) (.inl ():Unit⊕(Int×Bool)) (fuel' (n:=p.F9.length) (by omega)) (fun i r hi=>by
  have hlt:=Q6 hi
  obtain ⟨hr,hg⟩:=h.rules hi
  simp only [A5f,Dt (show (i:Int) < ((mkv j part).G5.P6.F9.length:Int) by rw [h.j.given]; omega),Cy,hg,Oz,h.least hi,I4 (show i < 9223372036854775807 by omega)]
  cases decide (r.J3=0) with
  | false=>rfl
  | true=>cases decide (0 < A3Z (mkv j part) r) <;> rfl) (by simp [A5f,h.j.given])
 rw [key,Oz]
 unfold C2y
 have e:∀ (l:List F3) (i:Nat),(∃ q:Int,A0M (fun (i:Nat) (r:F3)=>if decide (r.J3=0) && decide (0 < A3Z (mkv j part) r) then some (.inr ((i:Int),true)) else none) (.inl ():Unit⊕(Int×Bool)) i l=.inr (q,true)∧(l.any fun r=>decide (r.J3=0) && decide (0 < A3Z (mkv j part) r))=true)∨(A0M (fun (i:Nat) (r:F3)=>if decide (r.J3=0) && decide (0 < A3Z (mkv j part) r) then some (.inr ((i:Int),true)) else none) (.inl ():Unit⊕(Int×Bool)) i l=.inl ()∧(l.any fun r=>decide (r.J3=0) && decide (0 < A3Z (mkv j part) r))=false):=by
  intro l
  induction l with
  | nil=>intro i; right; exact ⟨rfl,rfl⟩
  | cons r l ih=>
   intro i
   simp only [A0M,List.any_cons]
   cases (decide (r.J3=0) && decide (0 < A3Z (mkv j part) r)) with
   | true=>left; exact ⟨_,rfl,rfl⟩
   | false=>simpa using ih (i + 1)
 rcases e p.F9 0 with ⟨q,e1,e2⟩ | ⟨e1,e2⟩
 ·rw [e1,e2]; exact ⟨q,rfl⟩
 ·rw [e1,e2]; exact ⟨0,rfl⟩
theorem D1H (count:F6→Int→Option Int) (c:F3→Int) (hc:∀ (i:Nat) (r:F3),p.F9[i]?=some r→count (mkv j part) (i:Int)=some (c r)∧0≤c r∧c r≤262144):B4f j part count=some (C3J p.F9 c):=by
 have h:=C2T hv hj hP
 have hl:=hv.D2m
 unfold B4f
 rw [look_ok hv hj hP,Oz]
 simp only [Option.isNone_some,Cn,Oz]
 obtain ⟨r,hr,hq⟩:=M8 (f:=A6u count (mkv j part)) (fun s=>∃ k:Nat,s.1=(k:Int)∧k≤p.F9.length∧s.2=C3J (p.F9.take k) c∧0≤s.2∧s.2≤262144000 * k) (fun s=>p.F9.length - s.1.toNat) (fun r=>r=C3J p.F9 c) (fun s hs=>by
  obtain ⟨i,n⟩:=s
  obtain ⟨k,rfl,hk,hn,hb⟩:=hs
  simp only at hn hb
  by_cases hlt:k < p.F9.length
  ·left
   have hx:=Lg hlt
   obtain ⟨hr,hg⟩:=h.rules hx
   obtain ⟨hc1,hc2,hc3⟩:=hc k _ hx
   have htk:p.F9.take (k + 1)=p.F9.take k ++ [p.F9[k]]:=A7m hx
   have hw:=hr.w
   have hsum:C3J (p.F9.take (k + 1)) c=n + (if 0 < p.F9[k].J3 then p.F9[k].J3 * c p.F9[k] else 0):=by
    rw [htk,hn]
    unfold C3J
    rw [List.map_append,List.sum_append]
    simp
   simp only [A6u,Dt (show (k:Int) < ((mkv j part).G5.P6.F9.length:Int) by rw [h.j.given]; omega),Cy,hg,Oz,hc1,I4 (show k < 9223372036854775807 by omega)]
   by_cases h0:0 < p.F9[k].J3
   ·have hm0:0≤p.F9[k].J3 * c p.F9[k]:=Int.mul_nonneg (by omega) hc2
    have hm1:p.F9[k].J3 * c p.F9[k]≤1000 * 262144:=Int.mul_le_mul hw.2 hc3 hc2 (by omega)
    rw [if_pos h0] at hsum
    rw [Dt h0,Cy,A0N (by omega) (by omega),Oz,A0N (by omega) (by omega),Oz]
    exact ⟨_,rfl,⟨k + 1,rfl,by omega,hsum.symm,by simp only; omega,by simp only; omega⟩,by simp; omega⟩
   ·rw [if_neg h0] at hsum
    rw [Df h0,Cn]
    exact ⟨_,rfl,⟨k + 1,rfl,by omega,by rw [hsum]; simp,by simp only; omega,by simp only; omega⟩,by simp; omega⟩
  ·right
   have:k=p.F9.length:=by omega
   subst this
   simp only [A6u]
   rw [Df (by rw [h.j.given]; omega),Cn]
   exact ⟨_,rfl,by rw [hn,List.take_length]⟩) FUEL ((0:Int),(0:Int)) ⟨0,rfl,Nat.zero_le _,rfl,by simp,by simp⟩ (fuel' (show p.F9.length - (0:Int).toNat≤1000000 by omega))
 rw [hr,hq]
 rfl
theorem D0f:A9D j part=some (C3J p.F9 (A1h (mkv j part))):=by
 have h:=C2T hv hj hP
 unfold A9D
 rw [D1H hv hj hP A4j (A1h (mkv j part)) (fun i r hi=>⟨h.faults hi,(h.fbd (h.rules hi).1).1,(h.fbd (h.rules hi).1).2⟩)]
 rfl
end
end Go.Pl
namespace Go.Pl
open Go Go.Sl Go.Dm
theorem D0h {c:Int→Int→Int} {cmp:Int→Int→Option Int} {P:Int→Prop} (hc:∀ a b,P a→P b→cmp a b=some (c a b)):C8R (fun a b=>decide (c a b < 0)) P (A1X 0 cmp) 1000:=by
 refine ⟨fun x q _ _=>?_,fun p y x q hP hl=>?_⟩
 ·simp [A1X,A8E]
 ·have hp:p.length≤1000:=by simp at hl; omega
  have hx:P x:=hP x (by simp)
  have hy:P y:=hP y (by simp)
  simp only [A1X,A8E,Dt (show (0:Int) < ((p.length + 1:Nat):Int) by omega),Cy,at2,at1,C5x hp,Oz,hc x y hx hy,Int.toNat_natCast,set2,set1]
  cases decide (c x y < 0) <;> rfl
theorem C1C {c:Int→Int→Int} {cmp:Int→Int→Option Int} {P:Int→Prop} (hc:∀ a b,P a→P b→cmp a b=some (c a b)) {l:List Int} (h:l.length < 20) (hl:∀ x ∈ l,P x):A4r l cmp=some (B2H (fun a b=>decide (c a b < 0)) l):=by
 have key:A6M l (0:Int) (l.length:Int) cmp=some (B2H (fun a b=>decide (c a b < 0)) l):=by
  unfold A6M
  rw [show J8 ((0:Int) + (1:Int))=some (1:Int) from rfl,Oz]
  cases l with
  | nil=>
   obtain ⟨m',hm'⟩:=fu1
   rw [hm']
   rfl
  | cons x r=>
   have:=B9g (fun a b=>decide (c a b < 0)) (M:=1000) (by omega) (D0h hc) (g0:=A1Y 0 ((x::r).length:Int) cmp) (N:=(x::r).length) (fun d i hd hi=>by
    simp only [A1Y,Dt (show (i:Int) < ((x::r).length:Int) by omega),Cy]
    cases iter (A1X 0 cmp) FUEL (d,(i:Int)) with
    | none=>rfl
    | some d'=>simp only [Oz,I4 (show i < 9223372036854775807 by omega)]) (fun d hd=>by simp [A1Y]) (by omega) r [x] FUEL (fuel' (by rw [List.length_cons] at h; omega)) (by simpa using hl) (by simp; omega)
   rw [List.singleton_append] at this
   have this':iter (A1Y 0 ((x::r).length:Int) cmp) FUEL (x::r,(1:Int))=_:=this
   rw [this']
   rfl
 unfold A4r B2r
 rw [C6v (r:=(l,(0:Int))) (by simp only [A8B]; rw [Df (by omega)]; rfl),Oz]
 simp only
 rw [key,Oz,C6v (r:=()) (by simp only [A8J]; rw [Df (by omega)]; rfl)]
 rfl
def D3m (i x:Nat):Bool:=match A2X (i:Int) (x:Int) with
 | none=>false
 | some t=>match A4h t with
  | none=>false
  | some r=>r.all fun z=>decide (-1000≤z) && decide (z≤1000)
theorem lvs:(List.range 3).all (fun i=>(List.range 256).all fun x=>D3m i x)=true:=by kernel_rfl
theorem C7E {ts:List D5} (h:MTs ts) {t:D5} (ht:t ∈ ts) {r:List Int} (hr:A4h t=some r):∀ z ∈ r,-1000≤z∧z≤1000:=by
 obtain ⟨i,hi,rfl⟩:=List.getElem_of_mem ht
 have hx:=Lg hi
 obtain ⟨x,hx',hl⟩:=h.x i _ hx
 have hlen:=h.len
 have:=List.all_eq_true.1 (List.all_eq_true.1 lvs i (List.mem_range.2 (by omega))) x (List.mem_range.2 hx')
 unfold D3m at this
 rw [hl] at this
 simp only at this
 rw [hr] at this
 intro z hz
 simpa using List.all_eq_true.1 this z hz
theorem C7i {ts:List D5} (h:MTs ts) {i:Nat} (hi:i < ts.length):∃ x q,A8m ts (i:Int)=some (x::q)∧U2 (ts.take i)≤x∧x < U2 (ts.take i) + M6 ts[i]:=by
 have hOk:OkH ts:=⟨(h.ok).1,(h.ok).2⟩
 have hx:=Lg hi
 obtain ⟨c1,_,_,c4,c5⟩:=h.t i _ hx
 have hmem:ts[i] ∈ ts:=List.getElem_mem hi
 have h0:M6 ts[i] ≠ 0:=(A6O c1).2.1
 have hbd:=Z8 ts[i]
 obtain ⟨lv,hlv,hll⟩:=C2m h0
 have hlb:=C7E h hmem hlv
 have hF0:=B3k ts i
 have hF1:=A3c (ts.take i)
 have hlen:=h.len
 have hF2:U2 (ts.take i)≤100:=by
  have:=(A3c (ts.take i)).2
  rw [List.length_take] at this
  omega
 unfold A8m
 rw [Df (show ¬ (i:Int) < 0 by omega),Cn,Df (show ¬ (ts.length:Int)≤(i:Int) by omega),Cn,hOk.valid,Oz,Oz]
 simp only [Bool.not_true,Cn]
 rw [X8 hi,Oz,hlv,Oz,hOk.first hi,Oz]
 generalize hF:U2 (ts.take i)=F at *
 have hmk:mkL (lv.length:Int) (0:Int)=some (List.replicate lv.length (0:Int)):=by
  have:mkL (lv.length:Int) (0:Int)=(bif Nat.ble lv.length 1073741824 then some (List.replicate lv.length (0:Int)) else none):=rfl
  rw [this,Nat.ble_eq_true_of_le (by omega)]
  rfl
 rw [hmk,Oz]
 obtain ⟨r,hr,hrl,hrq⟩:=M8 (f:=A6z F (List.replicate lv.length (0:Int))) (fun s=>∃ k:Nat,s.1=(k:Int)∧k≤lv.length∧s.2.length=lv.length∧∀ (q:Nat) (z:Int),q < k→s.2[q]?=some z→F≤z∧z < F + lv.length) (fun s=>lv.length - s.1.toNat) (fun r=>r.length=lv.length∧∀ (q:Nat) (z:Int),q < lv.length→r[q]?=some z→F≤z∧z < F + lv.length) (fun s hs=>by
  obtain ⟨j,p⟩:=s
  obtain ⟨k,rfl,hk,hl,hp⟩:=hs
  simp only at hl hp
  simp only [A6z,List.length_replicate]
  by_cases hlt:k < lv.length
  ·left
   rw [Dt (by omega),Cy,A2p (by omega) (by omega),Oz,X8 (by omega),Oz,Oz,I4 (by omega)]
   refine ⟨_,rfl,⟨k + 1,rfl,by omega,by simp [hl],fun q z hq hz=>?_⟩,by simp; omega⟩
   simp only [Int.toNat_natCast] at hz
   by_cases hqk:q=k
   ·subst hqk
    rw [List.getElem?_set_self (by omega)] at hz
    cases hz
    omega
   ·rw [List.getElem?_set_ne (by omega)] at hz
    exact hp q z (by omega) hz
  ·right
   rw [Df (by omega)]
   exact ⟨_,rfl,hl,fun q z hq hz=>hp q z (by omega) hz⟩) FUEL ((0:Int),List.replicate lv.length (0:Int)) ⟨0,rfl,Nat.zero_le _,by simp,fun q z hq=>by omega⟩ (fuel' (by simp; omega))
 rw [hr,Oz]
 have hrm:∀ z ∈ r,F≤z∧z < F + lv.length:=fun z hz=>by
  obtain ⟨q,hq,rfl⟩:=List.getElem_of_mem hz
  exact hrq q _ (by omega) (Lg hq)
 have hsort:=C1C (c:=fun a b=>lv.getD (a - F).toNat 0 - lv.getD (b - F).toNat 0) (cmp:=fun y0 y1=>A5e y0 y1 lv F) (P:=fun z=>F≤z∧z < F + lv.length) (fun a b ha hb=>by
  have m1:=hlb _ (A4T (xs:=lv) (s:=a - F) 0 (by omega) (by omega))
  have m2:=hlb _ (A4T (xs:=lv) (s:=b - F) 0 (by omega) (by omega))
  unfold A5e
  rw [A2p (by omega) (by omega),Oz,A1A 0 (by omega) (by omega),Oz,A2p (by omega) (by omega),Oz,A1A 0 (by omega) (by omega),Oz,A2p (by omega) (by omega)]
  rfl) (l:=r) (by omega) hrm
 rw [hsort,Oz]
 have hperm:=B5L (fun a b=>decide (lv.getD (a - F).toNat 0 - lv.getD (b - F).toNat 0 < 0)) r
 cases hs:B2H (fun a b=>decide (lv.getD (a - F).toNat 0 - lv.getD (b - F).toNat 0 < 0)) r with
 | nil=>rw [hs] at hperm; have:=hperm.length_eq; simp at this; omega
 | cons x q=>
  rw [hs] at hperm
  have:=hrm x (hperm.mem_iff.1 (List.mem_cons_self ..))
  exact ⟨x,q,rfl,this.1,by omega⟩
structure Fit (p:C9):Prop where
 v:Vld p
 t:MTs p.C8
 r:p.F9.length≤12
theorem C7C {p:C9} (h:Fit p) {i:Nat} (hi:i < p.C8.length):∃ r,B0n p (i:Int)=some r∧r.length≤12∧∀ z ∈ r,U2 (p.C8.take i)≤z∧z < U2 (p.C8.take i) + M6 p.C8[i]:=by
 have hck:A2u p=some (0,0):=by rw [A3I h.v.ok,h.v.eq]
 have hx:=Lg hi
 obtain ⟨c1,n1,_,c4,c5⟩:=h.t.t i _ hx
 obtain ⟨y,q,hy,hy1,hy2⟩:=C7i h.t hi
 have hlen:=h.t.len
 have hrl:=h.r
 have hF2:0≤U2 (p.C8.take i)∧U2 (p.C8.take i)≤100:=by
  have:=A3c (p.C8.take i)
  rw [List.length_take] at this
  omega
 unfold B0n
 rw [hck,Oz]
 simp only [Dt rfl,Bool.not_true]
 rw [show decide True=true from rfl]
 simp only [Bool.not_true,Cn]
 rw [Df (show ¬ (i:Int) < 0 by omega),Cn,Df (show ¬ (p.C8.length:Int)≤(i:Int) by omega),Oz,Cn]
 obtain ⟨r,hr,hl,hq⟩:=M8 (f:=A6W p (i:Int)) (fun s=>∃ k:Nat,s.1=(k:Int)∧k≤p.F9.length∧s.2.length≤k∧∀ z ∈ s.2,U2 (p.C8.take i)≤z∧z < U2 (p.C8.take i) + M6 p.C8[i]) (fun s=>p.F9.length - s.1.toNat) (fun r=>r.length≤12∧∀ z ∈ r,U2 (p.C8.take i)≤z∧z < U2 (p.C8.take i) + M6 p.C8[i]) (fun s hs=>by
  obtain ⟨j,out⟩:=s
  obtain ⟨k,rfl,hk,hl,ho⟩:=hs
  simp only at hl ho
  simp only [A6W]
  by_cases hlt:k < p.F9.length
  ·left
   rw [Dt (by omega),Cy]
   unfold B3e
   rw [X8 hlt,Oz]
   have hrf:=h.v.rf (List.getElem_mem hlt)
   have hap:∀ z:Int,apL out [z]=some (out ++ [z]):=fun z=>Z4 (by omega)
   have hok:∀ z:Int,(U2 (p.C8.take i)≤z∧z < U2 (p.C8.take i) + M6 p.C8[i])→∃ s':Int×List Int,(some (Sum.inl (((k + 1:Nat):Int),out ++ [z])):Option ((Int×List Int)⊕List Int))=some (.inl s')∧(∃ k:Nat,s'.1=(k:Int)∧k≤p.F9.length∧s'.2.length≤k∧∀ z ∈ s'.2,U2 (p.C8.take i)≤z∧z < U2 (p.C8.take i) + M6 p.C8[i])∧p.F9.length - s'.1.toNat < p.F9.length - k:=fun z hz=>⟨_,rfl,⟨k + 1,rfl,by omega,by simp; omega,fun w hw=>by
    rcases List.mem_append.1 hw with hw | hw
    ·exact ho w hw
    ·rw [List.mem_singleton] at hw; subst hw; exact hz⟩,by simp; omega⟩
   have hno:∃ s':Int×List Int,(some (Sum.inl (((k + 1:Nat):Int),out)):Option ((Int×List Int)⊕List Int))=some (.inl s')∧(∃ k:Nat,s'.1=(k:Int)∧k≤p.F9.length∧s'.2.length≤k∧∀ z ∈ s'.2,U2 (p.C8.take i)≤z∧z < U2 (p.C8.take i) + M6 p.C8[i])∧p.F9.length - s'.1.toNat < p.F9.length - k:=⟨_,rfl,⟨k + 1,rfl,by omega,by simp only; omega,ho⟩,by simp; omega⟩
   by_cases h7:p.F9[k].H6=7
   ·rw [Dt h7,Cy,X8 hi,Oz,Oz]
    by_cases hn:p.F9[k].J2=p.C8[i].F7
    ·rw [Dt hn,Cy,h.v.h.first hi,Oz]
     obtain ⟨t,ht,hN⟩:=hrf.seat h7
     have htab:A4n p p.F9[k].J2=(i:Int):=by rw [hn,n1]; exact h.t.tab hi
     rw [htab,Int.toNat_natCast,hx] at ht
     cases ht
     have hn0:=hrf.n
     rw [A2p (by omega) (by omega),Oz,hap,Oz,I4 (by omega)]
     exact hok _ ⟨by omega,by omega⟩
    ·rw [Df hn,Cn,Df (by omega),Cn,I4 (by omega)]
     exact hno
   ·rw [Df h7,Cn,Oz,Cn]
    by_cases h14:p.F9[k].H6=14
    ·rw [Dt h14,Cy]
     unfold B3P
     have hy0:H5 (y::q) (0:Int)=some y:=rfl
     by_cases he:p.F9[k].J2=(⟨#[]⟩:ByteArray)
     ·rw [Dt he,Cy,hy,Oz,hy0,Oz,hap,Oz,I4 (by omega)]
      exact hok _ ⟨hy1,hy2⟩
     ·rw [Df he,Cn,X8 hi,Oz]
      by_cases hn:p.F9[k].J2=p.C8[i].F7
      ·rw [Dt hn,Cy,hy,Oz,hy0,Oz,hap,Oz,I4 (by omega)]
       exact hok _ ⟨hy1,hy2⟩
      ·rw [Df hn,Cn,I4 (by omega)]
       exact hno
    ·rw [Df h14,Cn,I4 (by omega)]
     exact hno
  ·right
   rw [Df (by omega)]
   exact ⟨_,rfl,by omega,ho⟩) FUEL ((0:Int),([]:List Int)) ⟨0,rfl,Nat.zero_le _,by simp,fun z hz=>by cases hz⟩ (fuel' (by simp; omega))
 rw [hr,Oz,C5D hl,Oz]
 have hperm:=B5L (fun a b:Int=>decide (a < b)) r
 obtain ⟨w,hw,hwm,hwl⟩:=C8s (l:=B2H (fun a b:Int=>decide (a < b)) r) (by rw [hperm.length_eq]; omega)
 rw [hperm.length_eq] at hwl
 rw [hw]
 exact ⟨w,rfl,by omega,fun z hz=>hq z (hperm.mem_iff.1 (hwm z hz))⟩
end Go.Pl
namespace Go.Pl
open Go Go.Sl Go.Dm
theorem C9i {p:C9} (h:Fit p) {i:Nat} (hi:i < p.C8.length):∃ r,B2x p (i:Int)=some r∧r.length≤12∧∀ u ∈ r,PmL (M6 p.C8[i]).toNat u∧A1F p.C8[i] u=some true:=by
 have hck:A2u p=some (0,0):=by rw [A3I h.v.ok,h.v.eq]
 obtain ⟨q,hq,hql,hqm⟩:=C7C h hi
 have hlen:=h.t.len
 have hF:0≤U2 (p.C8.take i)∧U2 (p.C8.take i)≤100:=by
  have:=A3c (p.C8.take i)
  rw [List.length_take] at this
  omega
 have hbd:=Z8 p.C8[i]
 obtain ⟨w,hw,hwl,hwm⟩:=M8 (f:=A7R p (i:Int) q) (fun s=>∃ k:Nat,s.1=(k:Int)∧k≤q.length∧s.2.length≤k∧∀ z ∈ s.2,0≤z∧z < M6 p.C8[i]) (fun s=>q.length - s.1.toNat) (fun r=>r.length≤12∧∀ z ∈ r,0≤z∧z < M6 p.C8[i]) (fun s hs=>by
  obtain ⟨j,out⟩:=s
  obtain ⟨k,rfl,hk,hl,ho⟩:=hs
  simp only at hl ho
  simp only [A7R]
  by_cases hlt:k < q.length
  ·left
   have hm:=hqm _ (List.getElem_mem hlt)
   rw [Dt (by omega),Cy,X8 hlt,Oz,h.v.h.first hi,Oz,A2p (by omega) (by omega),Oz,Z4 (by omega),Oz,I4 (by omega)]
   refine ⟨_,rfl,⟨k + 1,rfl,by omega,by simp; omega,fun z hz=>?_⟩,by simp; omega⟩
   rcases List.mem_append.1 hz with hz | hz
   ·exact ho z hz
   ·rw [List.mem_singleton] at hz; subst hz; omega
  ·right
   rw [Df (by omega)]
   exact ⟨_,rfl,by omega,ho⟩) FUEL ((0:Int),([]:List Int)) ⟨0,rfl,Nat.zero_le _,by simp,fun z hz=>by cases hz⟩ (fuel' (by simp; omega))
 obtain ⟨r,hr,hr1,hr2⟩:=C9S h.t (List.getElem_mem hi) (seats:=w) (by omega) hwm
 refine ⟨r,?_,hr1,fun u hu=>⟨(hr2 u hu).1,(hr2 u hu).2.1⟩⟩
 unfold B2x B6e
 rw [hck,Oz]
 simp only [Dt rfl,Bool.not_true]
 rw [show decide True=true from rfl]
 simp only [Bool.not_true,Cn]
 rw [Df (show ¬ (i:Int) < 0 by omega),Cn,Df (show ¬ (p.C8.length:Int)≤(i:Int) by omega),Cn,hq,Oz,hw,Oz,X8 hi,Oz,hr]
 rfl
structure HOk (h:M0) (p:C9) (N:Nat):Prop where
 j:JOk h.G5 p N
 fp:h.fp=p
 tl:h.A0d.length=N
 tv:∀ s:Nat,s < N→∃ (t k:Nat) (x:D5),h.A0d[s]?=some (t:Int)∧p.C8[t]?=some x∧(s:Int)=U2 (p.C8.take t) + k∧(k:Int) < M6 x
 fl:h.B7I.length=p.C8.length
 fv:∀ t:Nat,t < p.C8.length→h.B7I[t]?=some (U2 (p.C8.take t))
 gl:h.A7V.length=p.C8.length
 gv:∀ (t:Nat) (x:D5),p.C8[t]?=some x→∃ g,h.A7V[t]?=some g∧g.length≤12∧∀ u ∈ g,PmL (M6 x).toNat u
theorem C7m {l:List D5} {k:Nat} (hk:k < l.length):U2 (l.take (k + 1))=U2 (l.take k) + M6 l[k]:=by
 have:l.take (k + 1)=l.take k ++ [l[k]]:=A7m (Lg hk)
 rw [this,C5j]
theorem C8N {α:Type} {l:List α} {x:α} {q:Nat} {P:α→Prop} (h:∃ g,l[q]?=some g∧P g):∃ g,(l ++ [x])[q]?=some g∧P g:=by
 obtain ⟨g,h1,h2⟩:=h
 exact ⟨g,by rw [List.getElem?_append_left (Q6 h1)]; exact h1,h2⟩
theorem C8G {p:C9} (h:Fit p):∃ H N,A5S p=some (some H,0,0)∧HOk H p N∧A6R p=some (some H.G5,0,0):=by
 obtain ⟨j,N,hj,hJ⟩:=D1S h.v
 have hlen:=h.t.len
 have hnone:A5J j=some false:=by
  unfold A5J
  first | rfl | (rw [hJ.kinds]; rfl)
 have hprob:A7Q j=some p:=by
  unfold A7Q
  rw [hnone,Oz,Cn,hJ.given,B3E h.v]
  rfl
 obtain ⟨⟨tb,fs,gs⟩,hr,hk⟩:=M8 (f:=A6A p) (fun s=>∃ k:Nat,s.2.2.2=(k:Int)∧k≤p.C8.length∧(s.1.length:Int)=U2 (p.C8.take k)∧s.2.1.length=k∧s.2.2.1.length=k∧
   (∀ q:Nat,q < s.1.length→∃ (t m:Nat) (x:D5),s.1[q]?=some (t:Int)∧p.C8[t]?=some x∧(q:Int)=U2 (p.C8.take t) + m∧(m:Int) < M6 x)∧
   (∀ t:Nat,t < k→s.2.1[t]?=some (U2 (p.C8.take t)))∧
   (∀ (t:Nat) (x:D5),t < k→p.C8[t]?=some x→∃ g,s.2.2.1[t]?=some g∧g.length≤12∧∀ u ∈ g,PmL (M6 x).toNat u)) (fun s=>p.C8.length - s.2.2.2.toNat)
  (fun r=>(r.1.length:Int)=U2 p.C8∧r.2.1.length=p.C8.length∧r.2.2.length=p.C8.length∧
   (∀ q:Nat,q < r.1.length→∃ (t m:Nat) (x:D5),r.1[q]?=some (t:Int)∧p.C8[t]?=some x∧(q:Int)=U2 (p.C8.take t) + m∧(m:Int) < M6 x)∧
   (∀ t:Nat,t < p.C8.length→r.2.1[t]?=some (U2 (p.C8.take t)))∧
   (∀ (t:Nat) (x:D5),t < p.C8.length→p.C8[t]?=some x→∃ g,r.2.2[t]?=some g∧g.length≤12∧∀ u ∈ g,PmL (M6 x).toNat u)) (fun s hs=>by
  obtain ⟨tb,fs,gs,i⟩:=s
  obtain ⟨k,hi,hk,h1,h2,h3,h4,h5,h6⟩:=hs
  simp only at hi h1 h2 h3 h4 h5 h6
  subst hi
  simp only [A6A]
  by_cases hlt:k < p.C8.length
  ·left
   have hx:=Lg hlt
   obtain ⟨c1,_,_,c4,c5⟩:=h.t.t k _ hx
   have hbd:=Z8 p.C8[k]
   obtain ⟨g,hg,hg1,hg2⟩:=C9i h hlt
   have hF:U2 (p.C8.take k)≤100:=by
    have:=A3c (p.C8.take k)
    rw [List.length_take] at this
    omega
   have hseat:B1N p.C8[k]=some (M6 p.C8[k]):=by
    unfold B1N
    rw [B1g c5,c1,Oz]
    simp only [Dt rfl]
    rw [show decide True=true from rfl]
    simp only [Bool.not_true,Cn]
    rw [A2c]
    rfl
   obtain ⟨n,hn⟩:=Zn hbd.1
   have hrep:A6h [(k:Int)] (M6 p.C8[k])=some (List.replicate n (k:Int)):=by rw [hn]; exact C6e _ (by omega)
   have hap:apL tb (List.replicate n (k:Int))=some (tb ++ List.replicate n (k:Int)):=B2p (by simp; omega)
   rw [Dt (by omega),Cy,Z4 (by omega),Oz,X8 hlt,Oz,hseat,Oz,hrep,Oz,hap,Oz,Oz,hg,Oz,Z4 (by omega),Oz,I4 (by omega)]
   refine ⟨_,rfl,⟨k + 1,rfl,by omega,?_,by simp; omega,by simp; omega,fun q hq=>?_,fun t ht=>?_,fun t x ht hx'=>?_⟩,by simp; omega⟩
   ·rw [C7m hlt,hn]; simp; omega
   ·simp only [List.length_append,List.length_replicate] at hq
    by_cases hql:q < tb.length
    ·obtain ⟨t,m,x,e1,e2⟩:=h4 q hql
     exact ⟨t,m,x,by simp only; rw [List.getElem?_append_left hql]; exact e1,e2⟩
    ·refine ⟨k,q - tb.length,p.C8[k],?_,hx,by omega,by omega⟩
     simp only
     rw [List.getElem?_append_right (by omega),List.getElem?_replicate,if_pos (by omega)]
   ·simp only
    by_cases htk:t < k
    ·rw [List.getElem?_append_left (by omega)]; exact h5 t htk
    ·have:t=k:=by omega
     subst this
     rw [List.getElem?_append_right (by omega),h2,Nat.sub_self,List.getElem?_cons_zero,h1]
   ·simp only
    by_cases htk:t < k
    ·exact C8N (h6 t x htk hx')
    ·have:t=k:=by omega
     subst this
     rw [hx] at hx'
     cases hx'
     refine ⟨g,?_,hg1,fun u hu=>(hg2 u hu).1⟩
     rw [List.getElem?_append_right (by omega),h3,Nat.sub_self,List.getElem?_cons_zero]
  ·right
   have:k=p.C8.length:=by omega
   subst this
   rw [Df (by omega)]
   rw [List.take_length] at h1
   exact ⟨_,rfl,h1,h2,h3,h4,h5,h6⟩) FUEL (([]:List Int),([]:List Int),([]:List (List (List Int))),(0:Int)) ⟨0,rfl,Nat.zero_le _,by simp [U2],rfl,rfl,fun q hq=>by simp at hq,fun t ht=>by omega,fun t x ht=>by omega⟩ (fuel' (by simp; omega))
 obtain ⟨h1,h2,h3,h4,h5,h6⟩:=hk
 simp only at h1 h2 h3 h4 h5 h6
 have hNl:tb.length=N:=by have:=hJ.n; omega
 refine ⟨M0.mk j p tb fs gs,N,?_,⟨hJ,rfl,hNl,fun s hs=>h4 s (by omega),h2,h5,h3,fun t x hx=>h6 t x (Q6 hx) hx⟩,hj⟩
 unfold A5S
 rw [hj,Oz]
 simp only [Dt rfl]
 rw [show decide True=true from rfl]
 simp only [Bool.not_true,Cn,Oz,hprob,hr]
end Go.Pl
namespace Go.Pl
open Go Go.Sl Go.Dm
section
variable {σ τ τ' S ρ:Type}
def scan (Y:σ→τ→Option (σ×Bool)):σ→List τ→Option (σ×Bool)
 | s,[]=>some (s,true)
 | s,x::l=>Option.bind (Y s x) fun q=>if q.2 then scan Y q.1 l else some (q.1,false)
theorem C5h (Y:σ→τ→Option (σ×Bool)) (b:List τ):∀ (a:List τ) (s:σ),scan Y s (a ++ b)=Option.bind (scan Y s a) fun q=>if q.2 then scan Y q.1 b else some (q.1,false)
 | [],s=>rfl
 | x::a,s=>by
  simp only [List.cons_append,scan]
  cases Y s x with
  | none=>rfl
  | some q=>
   simp only [Oz]
   cases hq:q.2 with
   | true=>simp only [if_true]; exact C5h Y b a q.1
   | false=>rfl
theorem C2h (g:τ→List τ') (Y:σ→τ'→Option (σ×Bool)):∀ (l:List τ) (s:σ),scan Y s (l.flatMap g)=scan (fun s x=>scan Y s (g x)) s l
 | [],s=>rfl
 | x::l,s=>by
  simp only [List.flatMap_cons,C5h,scan]
  cases scan Y s (g x) with
  | none=>rfl
  | some q=>
   simp only [Oz]
   cases hq:q.2 with
   | true=>simp only [if_true]; exact C2h g Y l q.1
   | false=>rfl
theorem C0V (Y:σ→τ→Option (σ×Bool)) (u:σ→τ→σ) (I:σ→Nat→Prop) (B:Nat):∀ (l:List τ) (k:Nat) (s:σ),I s k→k + l.length≤B→(∀ s k x,x ∈ l→k < B→I s k→Y s x=some (u s x,true)∧I (u s x) (k + 1))→scan Y s l=some (l.foldl u s,true)∧I (l.foldl u s) (k + l.length)
 | [],k,s,h0,_,_=>⟨rfl,h0⟩
 | x::l,k,s,h0,hB,h=>by
  rw [List.length_cons] at hB
  obtain ⟨h1,h2⟩:=h s k x (List.mem_cons_self ..) (by omega) h0
  have ih:=C0V Y u I B l (k + 1) (u s x) h2 (by omega) fun s k y hy=>h s k y (List.mem_cons_of_mem _ hy)
  simp only [scan,h1,Oz,if_true,List.foldl_cons,List.length_cons]
  rw [show k + (l.length + 1)=k + 1 + l.length by omega]
  exact ih
theorem D2r {f:S→Option (S⊕ρ)} (st:σ→Nat→S) (N:Nat) (G:σ→Nat→Option (σ×Bool)) (fin ex:σ→ρ)
  (h1:∀ s i,i < N→f (st s i)=Option.bind (G s i) fun q=>some (if q.2 then .inl (st q.1 (i + 1)) else .inr (ex q.1)))
  (h2:∀ s,f (st s N)=some (.inr (fin s))) {n:Nat} (s:σ) (hn:N < n):iter f n (st s 0)=Option.bind (scan G s (List.range N)) fun q=>some (if q.2 then fin q.1 else ex q.1):=by
 have key:∀ (n k:Nat) (s:σ),k≤N→N - k < n→iter f n (st s k)=Option.bind (scan G s (List.range' k (N - k))) fun q=>some (if q.2 then fin q.1 else ex q.1):=by
  intro n
  induction n with
  | zero=>intro k s _ h; omega
  | succ n ih=>
   intro k s hk hn
   by_cases hl:k=N
   ·subst hl
    simp [iter,h2,scan]
   ·have hlt:k < N:=by omega
    have e:List.range' k (N - k)=k::List.range' (k + 1) (N - (k + 1)):=by
     obtain ⟨d,hd⟩:∃ d,N - k=d + 1:=⟨N - k - 1,by omega⟩
     rw [hd,List.range'_succ,show N - (k + 1)=d by omega]
    rw [e]
    simp only [iter,h1 s k hlt,scan]
    cases G s k with
    | none=>rfl
    | some q=>
     simp only [Oz]
     cases hq:q.2 with
     | true=>simp only [if_true]; exact ih (k + 1) q.1 (by omega) (by omega)
     | false=>simp [hq]
 have:=key n 0 s (Nat.zero_le _) (by omega)
 rw [List.range_eq_range']
 simpa using this
theorem C5V {β:Type} {f:S→Option (S⊕ρ)} (st:σ→Nat→S) (N:Nat) (G:σ→Nat→Option (σ×Bool)) (fin:σ→ρ) (ex:σ→Nat→ρ) (post:ρ→Option β) (exB:σ→Option β)
  (h1:∀ s i,i < N→f (st s i)=Option.bind (G s i) fun q=>some (if q.2 then .inl (st q.1 (i + 1)) else .inr (ex q.1 i)))
  (h2:∀ s,f (st s N)=some (.inr (fin s))) (h3:∀ s i,i < N→post (ex s i)=exB s) {n:Nat} (s:σ) (hn:N < n):Option.bind (iter f n (st s 0)) post=Option.bind (scan G s (List.range N)) fun q=>if q.2 then post (fin q.1) else exB q.1:=by
 have key:∀ (n k:Nat) (s:σ),k≤N→N - k < n→Option.bind (iter f n (st s k)) post=Option.bind (scan G s (List.range' k (N - k))) fun q=>if q.2 then post (fin q.1) else exB q.1:=by
  intro n
  induction n with
  | zero=>intro k s _ h; omega
  | succ n ih=>
   intro k s hk hn
   by_cases hl:k=N
   ·subst hl
    simp [iter,h2,scan]
   ·have hlt:k < N:=by omega
    have e:List.range' k (N - k)=k::List.range' (k + 1) (N - (k + 1)):=by
     obtain ⟨d,hd⟩:∃ d,N - k=d + 1:=⟨N - k - 1,by omega⟩
     rw [hd,List.range'_succ,show N - (k + 1)=d by omega]
    rw [e]
    simp only [iter,h1 s k hlt,scan]
    cases G s k with
    | none=>rfl
    | some q=>
     simp only [Oz]
     cases hq:q.2 with
     | true=>simp only [if_true]; exact ih (k + 1) q.1 (by omega) (by omega)
     | false=>simp [hq,h3 _ k hlt]
 have:=key n 0 s (Nat.zero_le _) (by omega)
 rw [List.range_eq_range']
 simpa using this
end
def free (part:List Int):Int:=Z6 (fun x=>decide ((-1:Int)=x)) 0 part
def A1i (dead:List Int→Bool) (N:Nat):Nat→List Int→List (List Int)
 | 0,_=>[]
 | n + 1,part=>if dead part then [] else if free part < 0 then [part] else (List.range N).flatMap fun (s:Nat)=>if part.any (fun y=>decide ((s:Int)=y)) then [] else A1i dead N n (part.set (free part).toNat (s:Int))
theorem free_at {part:List Int} (h:0≤free part):(free part).toNat < part.length∧part[(free part).toNat]?=some (-1)∧∀ j,j < (free part).toNat→part[j]? ≠ some (-1):=by
 have key:∀ (l:List Int) (i:Nat),0≤Z6 (fun x=>decide ((-1:Int)=x)) i l→∃ k:Nat,Z6 (fun x=>decide ((-1:Int)=x)) i l=((i + k:Nat):Int)∧k < l.length∧l[k]?=some (-1)∧∀ j,j < k→l[j]? ≠ some (-1):=by
  intro l
  induction l with
  | nil=>intro i h; simp [Z6] at h
  | cons x l ih=>
   intro i h
   simp only [Z6] at h ⊢
   by_cases hx:(-1:Int)=x
   ·subst hx
    exact ⟨0,by simp,by simp,by simp,fun j hj=>by omega⟩
   ·simp only [Df hx] at h ⊢
    obtain ⟨k,e,hk,h1,h2⟩:=ih (i + 1) (by simpa using h)
    refine ⟨k + 1,?_,by simpa using hk,by simpa using h1,fun j hj=>?_⟩
    ·simp only [Bool.false_eq_true,if_false]; rw [e]; congr 1; omega
    ·cases j with
     | zero=>simpa using fun e=>hx e.symm
     | succ j=>simpa using h2 j (by omega)
 obtain ⟨k,e,hk,h1,h2⟩:=key part 0 h
 have:(free part).toNat=k:=by unfold free; omega
 rw [this]
 exact ⟨hk,h1,h2⟩
theorem C6I {part:List Int} (h:free part < 0):∀ x ∈ part,x ≠ -1:=by
 intro x hx e
 have:=B1A (fun x=>decide ((-1:Int)=x)) part 0
 have h2:=this.mp h
 have:=List.any_eq_false.1 h2 x hx
 simp [e] at this
def opens (part:List Int):Nat:=part.countP fun x=>decide ((-1:Int)=x)
theorem B4u {part:List Int} (h:0≤free part) {s:Int} (hs:s ≠ -1):opens (part.set (free part).toNat s) + 1=opens part:=by
 obtain ⟨h1,h2,_⟩:=free_at h
 unfold opens
 have e:part[(free part).toNat]=-1:=by have:=Lg h1; rw [h2] at this; exact (Option.some.inj this).symm
 have e1:part=part.take (free part).toNat ++ -1::part.drop ((free part).toNat + 1):=by
  rw [←e,←List.drop_eq_getElem_cons h1,List.take_append_drop]
 have e2:part.set (free part).toNat s=part.take (free part).toNat ++ s::part.drop ((free part).toNat + 1):=by
  rw [List.set_eq_take_append_cons_drop,if_pos h1]
 have e3:part.countP (fun x=>decide ((-1:Int)=x))=(part.take (free part).toNat ++ -1::part.drop ((free part).toNat + 1)).countP (fun x=>decide ((-1:Int)=x)):=congrArg _ e1
 rw [e2,e3,List.countP_append,List.countP_append,List.countP_cons,List.countP_cons]
 rw [Df (fun e=>hs e.symm),Dt rfl]
 simp
 omega
theorem A2I.set {N G:Nat} {part:List Int} (h:A2I N G part) (hf:0≤free part) {s:Nat} (hs:s < N) (hn:(part.any fun y=>decide ((s:Int)=y))=false):A2I N G (part.set (free part).toNat (s:Int)):=by
 obtain ⟨h1,h2,_⟩:=free_at hf
 have hno:∀ (j:Nat),part[j]? ≠ some (s:Int):=fun j e=>by
  have:=List.any_eq_false.1 hn _ (A0T e)
  simp at this
 refine ⟨by rw [List.length_set]; exact h.len,fun x hx=>?_,fun i j x hij hi hj=>?_⟩
 ·rcases List.mem_or_eq_of_mem_set hx with h' | h'
  ·exact h.bd x h'
  ·omega
 ·by_cases hi':(free part).toNat=i
  ·subst hi'
   rw [List.getElem?_set_self h1] at hi
   rw [List.getElem?_set_ne (by omega)] at hj
   cases hi
   exact absurd hj (hno j)
  ·rw [List.getElem?_set_ne hi'] at hi
   by_cases hj':(free part).toNat=j
   ·subst hj'
    rw [List.getElem?_set_self h1] at hj
    cases hj
    exact absurd hi (hno i)
   ·rw [List.getElem?_set_ne hj'] at hj
    exact h.one i j x hij hi hj
theorem B5z {d e:List Int→Bool} (N G:Nat) (h:∀ part,A2I N G part→e part=true→d part=true):∀ (n:Nat) (part:List Int),A2I N G part→(A1i d N n part).Sublist (A1i e N n part)
 | 0,_,_=>List.Sublist.refl _
 | n + 1,part,hP=>by
  unfold A1i
  by_cases hd:d part=true
  ·rw [if_pos hd]; exact List.nil_sublist _
  ·have he:¬ e part=true:=fun h'=>hd (h part hP h')
   rw [if_neg hd,if_neg he]
   by_cases hf:free part < 0
   ·rw [if_pos hf,if_pos hf]; exact List.Sublist.refl _
   ·rw [if_neg hf,if_neg hf]
    have key:∀ l:List Nat,(∀ s ∈ l,s < N)→(l.flatMap fun (s:Nat)=>if part.any (fun y=>decide ((s:Int)=y)) then [] else A1i d N n (part.set (free part).toNat (s:Int))).Sublist (l.flatMap fun (s:Nat)=>if part.any (fun y=>decide ((s:Int)=y)) then [] else A1i e N n (part.set (free part).toNat (s:Int))):=by
     intro l
     induction l with
     | nil=>intro _; exact List.Sublist.refl _
     | cons s l ih=>
      intro hl
      rw [List.flatMap_cons,List.flatMap_cons]
      refine List.Sublist.append ?_ (ih fun s' hs'=>hl s' (List.mem_cons_of_mem _ hs'))
      by_cases ha:(part.any fun y=>decide ((s:Int)=y))=true
      ·rw [if_pos ha,if_pos ha]; exact List.Sublist.refl _
      ·rw [if_neg ha,if_neg ha]
       exact B5z N G h n _ (hP.set (by omega) (hl s (List.mem_cons_self ..)) (eq_false_of_ne_true ha))
    exact key _ fun s hs=>List.mem_range.1 hs
theorem B2h {d:List Int→Bool} (N G:Nat):∀ (n:Nat) (part x:List Int),A2I N G part→x ∈ A1i d N n part→A2I N G x∧d x=false∧(∀ y ∈ x,y ≠ -1)∧∀ (g:Nat) (s:Int),part[g]?=some s→s ≠ -1→x[g]?=some s
 | 0,_,_,_,h=>by cases h
 | n + 1,part,x,hP,h=>by
  unfold A1i at h
  by_cases hd:d part=true
  ·rw [if_pos hd] at h; cases h
  ·rw [if_neg hd] at h
   by_cases hf:free part < 0
   ·rw [if_pos hf,List.mem_singleton] at h
    subst h
    exact ⟨hP,by simpa using hd,C6I hf,fun g s e _=>e⟩
   ·rw [if_neg hf] at h
    obtain ⟨s,hs,h⟩:=List.mem_flatMap.1 h
    by_cases ha:(part.any fun y=>decide ((s:Int)=y))=true
    ·rw [if_pos ha] at h; cases h
    ·rw [if_neg ha] at h
     have hf':0≤free part:=by omega
     obtain ⟨h1,h2,_⟩:=free_at hf'
     obtain ⟨a,b,c,e⟩:=B2h N G n _ x (hP.set hf' (List.mem_range.1 hs) (eq_false_of_ne_true ha)) h
     refine ⟨a,b,c,fun g t hg ht=>e g t ?_ ht⟩
     by_cases hg':(free part).toNat=g
     ·subst hg'; rw [h2] at hg; cases hg; exact absurd rfl ht
     ·rw [List.getElem?_set_ne hg']; exact hg
theorem B9k {d:List Int→Bool} (N G:Nat) (x:List Int) (hx:A2I N G x) (hfull:∀ y ∈ x,y ≠ -1) (hd:d x=false):∀ (n:Nat) (part:List Int),A2I N G part→opens part < n→(∀ (g:Nat) (s:Int),part[g]?=some s→s ≠ -1→x[g]?=some s)→(∀ part,A2I N G part→(∀ (g:Nat) (s:Int),part[g]?=some s→s ≠ -1→x[g]?=some s)→d part=false)→x ∈ A1i d N n part
 | 0,_,_,h,_,_=>by omega
 | n + 1,part,hP,hn,he,hmono=>by
  unfold A1i
  rw [if_neg (by rw [hmono part hP he]; simp)]
  by_cases hf:free part < 0
  ·rw [if_pos hf,List.mem_singleton]
   refine List.ext_getElem? fun g=>?_
   by_cases hg:g < part.length
   ·have e:=Lg hg
    rw [e]
    exact he g _ e (C6I hf _ (List.getElem_mem hg))
   ·rw [List.getElem?_eq_none (by have:=hx.len; have:=hP.len; omega),List.getElem?_eq_none (by omega)]
  ·rw [if_neg hf]
   have hf':0≤free part:=by omega
   obtain ⟨h1,h2,_⟩:=free_at hf'
   have hlt:(free part).toNat < x.length:=by have:=hx.len; have:=hP.len; omega
   have ex:=Lg hlt
   have hb:=hx.bd _ (List.getElem_mem hlt)
   have hne:=hfull _ (List.getElem_mem hlt)
   generalize x[(free part).toNat]=y at ex hb hne
   obtain ⟨s,rfl⟩:=Zn (show 0≤y by omega)
   have hs:s < N:=by omega
   have ha:(part.any fun y=>decide ((s:Int)=y))=false:=by
    rw [List.any_eq_false]
    intro y hy hq
    have hq:=of_decide_eq_true hq
    subst hq
    obtain ⟨j,hj,e⟩:=List.getElem_of_mem hy
    have ej:part[j]?=some (s:Int):=by rw [Lg hj,e]
    have xj:=he j _ ej (by omega)
    have hjf:j ≠ (free part).toNat:=fun h=>by rw [h,h2] at ej; cases ej
    rcases Nat.lt_or_gt_of_ne hjf with h | h
    ·have:=hx.one j _ _ h xj ex; omega
    ·have:=hx.one _ j _ h ex xj; omega
   refine List.mem_flatMap.2 ⟨s,List.mem_range.2 hs,?_⟩
   rw [ha]
   simp only [Bool.false_eq_true,if_false]
   refine B9k N G x hx hfull hd n _ (hP.set hf' hs ha) (by have:=B4u hf' (s:=(s:Int)) (by omega); omega) (fun g t hg ht=>?_) hmono
   by_cases hg':(free part).toNat=g
   ·subst hg'; rw [List.getElem?_set_self h1] at hg; cases hg; exact ex
   ·rw [List.getElem?_set_ne hg'] at hg; exact he g t hg ht
end Go.Pl
namespace Go.Pl
open Go Go.Sl Go.Dm
def A6e (j:P9) (p:C9) (part:List Int):Bool:=C2y (mkv j part) p.F9
theorem D4f {l:List Int} (hl:l.length≤1000) (v:Int):A3Y l v=some (Z6 (fun y=>decide (v=y)) 0 l):=by
 unfold A3Y
 refine B1I l _ (by rw [mx]; omega) (fun i x h=>?_) (by simp [A2J])
 have hi:=Q6 h
 simp only [A2J,K9 h,Oz,Cd]
 rw [if_pos (by omega),I4 (by omega)]
 by_cases hx:v=x <;> simp [hx]
theorem C7L {σ:Type} {s0:σ} {part:List Int} (hl:part.length≤1000) (s:Int):iter (A4G s0 part s) FUEL (0:Int)=some (if part.any (fun y=>decide (s=y)) then .inr (s0,part) else .inl ()):=by
 have key:=A1G (f:=A4G s0 part s) part (fun (i:Nat) x=>if decide (s=x) then some (.inr (s0,part)) else none) (.inl ():Unit⊕(σ×List Int)) (fuel' (n:=part.length) (by omega)) (fun i x hi=>by
  have hlt:=Q6 hi
  simp only [A4G,Dt (show (i:Int) < (part.length:Int) by omega),Cy,K9 hi,Oz,I4 (show i < 9223372036854775807 by omega)]
  by_cases hx:x=s
  ·rw [Dt hx,Dt hx.symm]; rfl
  ·rw [Df hx,Df (fun h=>hx h.symm)]; rfl) (by simp [A4G])
 rw [key,B0j _ (fun x=>!decide (s=x)) (.inr (s0,part)) _ (fun i x=>by cases decide (s=x) <;> rfl)]
 congr 1
 cases hq:part.any fun y=>decide (s=y) with
 | true=>
  have:(part.all fun x=>!decide (s=x))=false:=by rw [←Bool.not_eq_true]; intro hh; rw [List.any_eq_true] at hq; obtain ⟨x,hx,hd⟩:=hq; have:=List.all_eq_true.1 hh x hx; rw [hd] at this; cases this
  rw [this]; rfl
 | false=>
  have:(part.all fun x=>!decide (s=x))=true:=by rw [List.all_eq_true]; intro x hx; have:=List.any_eq_false.1 hq x hx; simpa using this
  rw [this]; rfl
theorem C4R {part:List Int} (hf:0≤free part) (s:Int):(part.set (free part).toNat s).set (free part).toNat (-1)=part:=by
 obtain ⟨h1,h2,_⟩:=free_at hf
 rw [List.set_set]
 exact B6o h2
theorem C9y {part:List Int} (hf:0≤free part) (s:Int):A6d (part.set (free part).toNat s) (free part)=some part:=by
 obtain ⟨h1,h2,_⟩:=free_at hf
 unfold A6d
 rw [A1A 0 hf (by rw [List.length_set]; omega),Oz,Oz,C4R hf]
theorem D0n {part:List Int} (hf:0≤free part):A6d part (free part)=some part:=by
 have:=C9y hf (-1)
 obtain ⟨h1,h2,_⟩:=free_at hf
 rwa [B6o h2] at this
theorem C2D {p:C9} (hv:Vld p) {H:M0} {N:Nat} (hH:HOk H p N) {σ:Type} (Y:σ→List Int→Option (σ×Bool)):∀ (n:Nat) (part:List Int) (s:σ),A2I N p.A8.length part→opens part < n→A6g n H part Y s=Option.bind (scan Y s (A1i (A6e H.G5 p) N n part)) fun q=>some (q.2,part,q.1)
 | 0,_,_,_,h=>by omega
 | n + 1,part,s,hP,hn=>by
  have hG:=hv.B2y
  have hlen:=hP.len
  have hN384:N≤384:=by have:=hH.j.n; have:=A5K hv.h; omega
  obtain ⟨i,hd⟩:=D0m hv hH.j hP
  unfold A6g A1i
  rw [hd,Oz]
  simp only
  change (bif A6e H.G5 p part then _ else _)=_
  cases hdead:A6e H.G5 p part with
  | true=>simp [scan]
  | false=>
   simp only [Cn,Bool.false_eq_true,if_false]
   unfold B6R
   rw [D4f (by omega) (-1),show Z6 (fun y=>decide ((-1:Int)=y)) 0 part=free part from rfl,Oz]
   by_cases hf:free part < 0
   ·rw [Dt hf,if_pos hf]
    simp only [Cy,scan]
    cases Y s part with
    | none=>rfl
    | some q=>cases q with | mk a b=>cases b <;> rfl
   ·have hf':0≤free part:=by omega
    obtain ⟨h1,h2,_⟩:=free_at hf'
    rw [Df hf,if_neg hf,Cn,C2h]
    refine Eq.trans (C5V (f:=A6N (A6g n) H Y (free part)) (fun (s:σ) (i:Nat)=>(s,part,(i:Int))) N (fun s (i:Nat)=>scan Y s (if part.any (fun y=>decide ((i:Int)=y)) then [] else A1i (A6e H.G5 p) N n (part.set (free part).toNat (i:Int)))) (fun s=>.inl (s,part)) (fun s (i:Nat)=>.inr (false,part.set (free part).toNat (i:Int),s)) _ (fun s=>some (false,part,s)) ?_ ?_ ?_ s (fuel' (by have:=hH.j.n; have:=A5K hv.h; omega))) ?_
    ·intro s i hi
     have hself:part.any (fun y=>decide ((i:Int)=y))=false→A6g n H (part.set (free part).toNat (i:Int)) Y s=Option.bind (scan Y s (A1i (A6e H.G5 p) N n (part.set (free part).toNat (i:Int)))) fun q=>some (q.2,part.set (free part).toNat (i:Int),q.1):=fun ha=>
      C2D hv hH Y n _ s (hP.set hf' hi ha) (by have:=B4u hf' (s:=(i:Int)) (by omega); omega)
     simp only [A6N]
     rw [Dt (show (i:Int) < (H.A0d.length:Int) by rw [hH.tl]; omega),Cy]
     unfold B6S
     rw [C7L (by omega),Oz]
     cases ha:part.any (fun y=>decide ((i:Int)=y)) with
     | true=>
      simp only [if_true,Oz,scan]
      rw [I4 (by omega)]
      rfl
     | false=>
      simp only [Bool.false_eq_true,if_false]
      rw [A1A (-1) hf' (by omega),Oz,Oz,hself ha]
      cases scan Y s (A1i (A6e H.G5 p) N n (part.set (free part).toNat (i:Int))) with
      | none=>rfl
      | some q=>
       obtain ⟨s',b⟩:=q
       simp only [Oz]
       cases b with
       | false=>rfl
       | true=>
        simp only [Bool.not_true,Cn,if_true]
        rw [A1A (-1) hf' (by rw [List.length_set]; omega),Oz,Oz,C4R hf']
        simp only [Oz]
        rw [I4 (by omega)]
        rfl
    ·intro s
     simp only [A6N]
     rw [Df (by rw [hH.tl]; omega)]
     rfl
    ·intro s i hi
     simp only [C9y hf',Oz]
    ·cases scan (fun s (i:Nat)=>scan Y s (if part.any (fun y=>decide ((i:Int)=y)) then [] else A1i (A6e H.G5 p) N n (part.set (free part).toNat (i:Int)))) s (List.range N) with
     | none=>rfl
     | some q=>
      obtain ⟨s',b⟩:=q
      cases b with
      | false=>rfl
      | true=>simp only [Oz,if_true,D0n hf']
theorem C0N {p:C9} (hv:Vld p) {H:M0} {N:Nat} (hH:HOk H p N) {σ:Type} (Y:σ→List Int→Option (σ×Bool)) {part:List Int} (hP:A2I N p.A8.length part) (s:σ):A2d Y s H part=Option.bind (scan Y s (A1i (A6e H.G5 p) N A6c part)) fun q=>some q.1:=by
 have hG:=hv.B2y
 have hlen:=hP.len
 have ho:opens part < A6c:=Nat.lt_of_le_of_lt List.countP_le_length (by rw [hlen]; exact Nat.lt_of_le_of_lt hG (by decide))
 unfold A2d
 rw [C3c (by omega),Oz,C2D hv hH Y A6c part s hP ho]
 cases scan Y s (A1i (A6e H.G5 p) N A6c part) with
 | none=>rfl
 | some q=>rfl
theorem C9j {p:C9} (hF:Fit p) {H:M0} {N:Nat} (hH:HOk H p N) {x:List Int} (hP:A2I N p.A8.length x) (hx:∀ y ∈ x,y ≠ -1):∃ b,A1O H x=some b:=by
 have hG:=hF.v.B2y
 have hlen:=hP.len
 have hT:=hF.t.len
 have hN:=A5K hF.v.h
 have hNn:=hH.j.n
 have l2:∀ (t:Nat) (y:D5) (u:List Int),p.C8[t]?=some y→PmL (M6 y).toNat u→∃ o,iter (A2b H x (t:Int) u) FUEL (0:Int)=some o:=by
  intro t y u hy hu
  obtain ⟨r,hr,_⟩:=M8 (f:=A2b H x (t:Int) u) (fun s=>∃ k:Nat,s=(k:Int)∧k≤x.length) (fun s=>x.length - s.toNat) (fun _=>True) (fun s hs=>by
   obtain ⟨k,rfl,hk⟩:=hs
   simp only [A2b]
   by_cases hlt:k < x.length
   ·rw [Dt (by omega),Cy]
    have hb:=hP.bd _ (List.getElem_mem hlt)
    have hne:=hx _ (List.getElem_mem hlt)
    unfold B0v
    rw [X8 hlt,Oz]
    generalize x[k]=s at hb hne
    obtain ⟨q,rfl⟩:=Zn (show 0≤s by omega)
    obtain ⟨t',m,y',e1,e2,e3,e4⟩:=hH.tv q (by omega)
    rw [K9 e1,Oz]
    by_cases htt:(t':Int)=(t:Int)
    ·have:t'=t:=by omega
     subst this
     rw [hy] at e2
     cases e2
     have hfst:=hH.fv t' (Q6 hy)
     have hbd:=Z8 y
     have hF0:=A3c (p.C8.take t')
     have hF1:U2 (p.C8.take t')≤384:=by
      have:=B3k p.C8 t'
      omega
     have hul:(m:Int) < (u.length:Int):=by rw [hu.1]; omega
     have hub:=hu.2 _ (A4T (xs:=u) (s:=(m:Int)) 0 (by omega) hul)
     rw [Dt htt]
     simp only [Bool.not_true,Cn]
     rw [K9 hfst,Oz,Oz,show (q:Int) - U2 (p.C8.take t')=(m:Int) by omega,A2p (by omega) (by omega),Oz,A1A 0 (by omega) hul,Oz,A2p (by omega) (by omega),Oz]
     cases decide (U2 (p.C8.take t') + u.getD (m:Int).toNat 0 < (q:Int)) with
     | true=>right; exact ⟨_,rfl,trivial⟩
     | false=>
      cases decide ((q:Int) < U2 (p.C8.take t') + u.getD (m:Int).toNat 0) with
      | true=>right; exact ⟨_,rfl,trivial⟩
      | false=>
       left
       simp only [Cn]
       rw [I4 (by omega)]
       exact ⟨_,rfl,⟨k + 1,rfl,by omega⟩,by omega⟩
    ·rw [Df htt]
     left
     simp only [Bool.not_false,Cy]
     rw [I4 (by omega)]
     exact ⟨_,rfl,⟨k + 1,rfl,by omega⟩,by omega⟩
   ·right
    rw [Df (by omega)]
    exact ⟨_,rfl,trivial⟩) FUEL (0:Int) ⟨0,rfl,Nat.zero_le _⟩ (fuel' (by simp; omega))
  exact ⟨r,hr⟩
 have l1:∀ (t:Nat) (y:D5) (g:List (List Int)),p.C8[t]?=some y→g.length≤12→(∀ u ∈ g,PmL (M6 y).toNat u)→∃ o,iter (A2e H x (t:Int) g) FUEL (0:Int)=some o:=by
  intro t y g hy hg hgm
  obtain ⟨r,hr,_⟩:=M8 (f:=A2e H x (t:Int) g) (fun s=>∃ k:Nat,s=(k:Int)∧k≤g.length) (fun s=>g.length - s.toNat) (fun _=>True) (fun s hs=>by
   obtain ⟨k,rfl,hk⟩:=hs
   simp only [A2e]
   by_cases hlt:k < g.length
   ·obtain ⟨o,ho⟩:=l2 t y g[k] hy (hgm _ (List.getElem_mem hlt))
    rw [Dt (by omega),Cy,X8 hlt,Oz,ho,Oz]
    cases o with
    | inl _=>
     left
     simp only
     rw [I4 (by omega)]
     exact ⟨_,rfl,⟨k + 1,rfl,by omega⟩,by omega⟩
    | inr b=>right; exact ⟨_,rfl,trivial⟩
   ·right
    rw [Df (by omega)]
    exact ⟨_,rfl,trivial⟩) FUEL (0:Int) ⟨0,rfl,Nat.zero_le _⟩ (fuel' (by simp; omega))
  exact ⟨r,hr⟩
 obtain ⟨r,hr,_⟩:=M8 (f:=A3O H x) (fun s=>∃ k:Nat,s=(k:Int)∧k≤H.A7V.length) (fun s=>H.A7V.length - s.toNat) (fun _=>True) (fun s hs=>by
  obtain ⟨k,rfl,hk⟩:=hs
  simp only [A3O]
  by_cases hlt:k < H.A7V.length
  ·have hlt':k < p.C8.length:=by rw [←hH.gl]; exact hlt
   have hy:=Lg hlt'
   obtain ⟨g,hg,hg1,hg2⟩:=hH.gv k _ hy
   obtain ⟨o,ho⟩:=l1 k _ g hy hg1 hg2
   rw [Dt (by omega),Cy,K9 hg,Oz,ho,Oz]
   cases o with
   | inl _=>
    left
    simp only
    rw [I4 (by have:=hH.gl; omega)]
    exact ⟨_,rfl,⟨k + 1,rfl,by omega⟩,by omega⟩
   | inr b=>right; exact ⟨_,rfl,trivial⟩
  ·right
   rw [Df (by omega)]
   exact ⟨_,rfl,trivial⟩) FUEL (0:Int) ⟨0,rfl,Nat.zero_le _⟩ (fuel' (by have:=hH.gl; simp; omega))
 unfold A1O
 rw [hr]
 cases r with
 | inl _=>exact ⟨_,rfl⟩
 | inr b=>exact ⟨b,rfl⟩
end Go.Pl
namespace Go.Pl
open Go Go.Sl Go.Dm
def Wk (N:Nat):Nat→Int
 | 0=>1
 | k + 1=>Wk N k * ((N:Int) - k)
theorem B7R {N:Nat}:∀ {k:Nat},k≤N→1≤Wk N k
 | 0,_=>Int.le_refl _
 | k + 1,h=>by
  have ih:=B7R (N:=N) (k:=k) (by omega)
  unfold Wk
  have:(1:Int) * 1≤Wk N k * ((N:Int) - k):=Int.mul_le_mul ih (by omega) (by decide) (by omega)
  omega
theorem D0N {N k:Nat} (h:k < N):Wk N k≤Wk N (k + 1):=by
 have h1:=B7R (N:=N) (k:=k) (by omega)
 have:Wk N k * 1≤Wk N k * ((N:Int) - k):=Int.mul_le_mul_of_nonneg_left (by omega) (by omega)
 have hu:Wk N (k + 1)=Wk N k * ((N:Int) - k):=rfl
 omega
theorem B9c {N:Nat}:∀ {j k:Nat},j≤k→k≤N→Wk N j≤Wk N k
 | j,0,h,_=>by
  have:j=0:=by omega
  subst this; exact Int.le_refl _
 | j,k + 1,h,hk=>by
  by_cases e:j=k + 1
  ·subst e; exact Int.le_refl _
  ·have:=B9c (N:=N) (j:=j) (k:=k) (by omega) (by omega)
   have:=D0N (N:=N) (k:=k) (by omega)
   omega
theorem D1u {p:C9} (h:MTs p.C8):A7M p=some (U2 p.C8):=by
 have hl:=h.len
 have:=A9i (f:=A2D p) (fun (a:Int) (i:Nat)=>(a,(i:Int))) p.C8 (fun a i x=>.inl (a + M6 x)) (fun a=>a) (fun a i=>a=U2 (p.C8.take i)) (a:=0) (by simp [U2]) (n:=FUEL) (fuel (by omega))
  (fun a i x hx hI=>by
   have hi:=Q6 hx
   have hI:a=U2 (p.C8.take i):=hI
   have b1:=A3c (p.C8.take i)
   have b2:=Z8 x
   simp only [List.length_take] at b1
   have h0:M6 x ≠ 0:=(A6O (h.t i x hx).1).2.1
   simp only [A2D,B1x]
   rw [Dt (show (i:Int) < (p.C8.length:Int) by omega),Cy,K9 hx,Oz]
   have hn:J8 ((i:Int) + (1:Int))=some ((i + 1:Nat):Int):=I4 (by omega)
   rcases shapes h0 with ⟨s,a1,a2,a3⟩ | ⟨s,a1,a2,a3,a4⟩ | ⟨s,a1,a2,a3,a4⟩ | ⟨s,a1,a2,a3,a4⟩
   ·have e:=C9o s a1 a2 a3
    rw [Df (show ¬ x.Q4=2 by omega),Cn,Df (show ¬ x.Q4=3 by omega),Cn,A2p (by omega) (by omega),Oz,hn]
    exact ⟨by simp only [Oz,e],by rw [B0f _ i hx,hI]⟩
   ·have e:=C5A s a1 a2 a3 a4
    rw [Dt s,Cy,A2p (by omega) (by omega),Oz,A2p (by omega) (by omega),Oz,A2p (by omega) (by omega),Oz,hn]
    exact ⟨by simp only [Oz,e],by rw [B0f _ i hx,hI]⟩
   ·have e:=C9v s a1 a2 a3 a4
    rw [Df (show ¬ x.Q4=2 by omega),Cn,Dt s,Cy,A2p (by omega) (by omega),Oz,A2p (by omega) (by omega),Oz,A2p (by omega) (by omega),Oz,hn]
    exact ⟨by simp only [Oz,e],by rw [B0f _ i hx,hI]⟩
   ·have e:=C8j s a1 a2 a3 a4
    rw [Df (show ¬ x.Q4=2 by omega),Cn,Df (show ¬ x.Q4=3 by omega),Cn,A2p (by omega) (by omega),Oz,hn]
    exact ⟨by simp only [Oz,e],by rw [B0f _ i hx,hI]⟩)
  (fun a _=>by simp [A2D])
 simp only [A7M]
 rw [show ((0:Int),(0:Int))=(fun (a:Int) (i:Nat)=>(a,(i:Int))) 0 0 from rfl,this,C3W]
 simp
structure D3I (p:C9) (N:Nat):Prop where
 fit:Fit p
 gs:MGs p.A8
 n:(N:Int)=U2 p.C8
 tl:p.C8.length≤2
 le:p.A8.length≤N
 w:Wk N p.A8.length≤800
 ru:∀ r ∈ p.F9,RU r
theorem C8b {m:R7} (h:B6Y m):∃ p N,B0w m=some p∧D3I p N:=by
 have hmx:=mx
 have hmin:min (m.C8.length:Int) (2:Int)=((min m.C8.length 2:Nat):Int):=by omega
 have e1:sbL m.C8 0 ((min m.C8.length 2:Nat):Int)=some (m.C8.take (min m.C8.length 2)):=A9F (by omega)
 have tOk:∀ e ∈ m.C8.take (min m.C8.length 2),0≤e∧e≤255:=fun e he=>h.t e (List.mem_of_mem_take he)
 have tLen:(m.C8.take (min m.C8.length 2)).length≤2:=by rw [List.length_take]; omega
 generalize m.C8.take (min m.C8.length 2)=tt at *
 have h0:B6Y ⟨tt,[],[],[]⟩:=⟨tOk,fun e he=>(by cases he),fun e he=>(by cases he),fun e he=>(by cases he),by simp only; omega,by simp only [List.length_nil]; omega,by simp only [List.length_nil]; omega,by simp only [List.length_nil]; omega⟩
 obtain ⟨p0,f1,f2,f3,f4,f5,f6,f7,f8,s0,f9⟩:=C4l h0
 have hse:=D1u f4
 obtain ⟨N,hN⟩:=Zn (A3c p0.C8).1
 have hN16:N≤16:=by
  have:=f4.len
  have:U2 p0.C8≤8 * p0.C8.length:=by
   have key:∀ l:List D5,(∀ t ∈ l,M6 t≤8)→U2 l≤8 * l.length:=by
    intro l
    induction l with
    | nil=>intro _; simp [U2]
    | cons t l ih=>
     intro hh
     have h1:=hh t (List.mem_cons_self ..)
     have h2:=ih fun x hx=>hh x (List.mem_cons_of_mem _ hx)
     have:U2 (t::l)=M6 t + U2 l:=by simp [U2]
     rw [this,List.length_cons]
     omega
   exact key _ fun t ht=>by
    obtain ⟨i,hi,rfl⟩:=List.getElem_of_mem ht
    exact (f4.t i _ (Lg hi)).2.2.2.1
  simp only at f8
  omega
 obtain ⟨g,hg,gk,rfl,hg1,hg2,hg3⟩:=M8 (f:=A6U m (N:Int)) (fun s=>∃ k:Nat,s.2=(k:Int)∧k≤m.A8.length∧k≤N∧s.1=Wk N k∧s.1≤800) (fun s=>m.A8.length - s.2.toNat) (fun r=>∃ k:Nat,r=(k:Int)∧k≤m.A8.length∧k≤N∧Wk N k≤800) (fun s hs=>by
  obtain ⟨w,i⟩:=s
  obtain ⟨k,rfl,hk,hkN,rfl,hw⟩:=hs
  simp only at hw
  simp only [A6U]
  by_cases hlt:k < m.A8.length
  ·rw [Dt (by omega),Cy]
   by_cases hlt2:k < N
   ·have hp:=B7R (N:=N) (k:=k) (by omega)
    have hp2:=B7R (N:=N) (k:=k + 1) (by omega)
    have hm:Wk N k * ((N:Int) - k)≤800 * 16:=Int.mul_le_mul hw (by omega) (by omega) (by omega)
    have hu:Wk N (k + 1)=Wk N k * ((N:Int) - k):=rfl
    rw [Dt (by omega),Cy,A2p (x:=(N:Int) - k) (by omega) (by omega),Oz,A2p (x:=Wk N k * ((N:Int) - k)) (by omega) (by omega),Oz]
    by_cases h8:Wk N k * ((N:Int) - k)≤800
    ·left
     rw [Dt h8,Cy]
     simp only [Oz]
     rw [A2p (x:=Wk N k * ((N:Int) - k)) (by omega) (by omega),I4 (by omega)]
     exact ⟨(Wk N k * ((N:Int) - k),((k + 1:Nat):Int)),rfl,⟨k + 1,rfl,by omega,by omega,rfl,h8⟩,by simp; omega⟩
    ·right
     rw [Df h8]
     exact ⟨_,rfl,k,rfl,hk,hkN,hw⟩
   ·right
    rw [Df (by omega)]
    exact ⟨_,rfl,k,rfl,hk,hkN,hw⟩
  ·right
   rw [Df (by omega)]
   exact ⟨_,rfl,k,rfl,hk,hkN,hw⟩) FUEL ((1:Int),(0:Int)) ⟨0,rfl,by omega,by omega,rfl,by decide⟩ (fuel (by have:=h.gl; simp; omega))
 have e2:sbL m.A8 0 (gk:Int)=some (m.A8.take gk):=A9F hg1
 have h1:B6Y ⟨tt,m.A8.take gk,m.M9,m.F9⟩:=⟨tOk,fun e he=>h.g e (List.mem_of_mem_take he),h.i,h.r,by simp only; omega,by simp only [List.length_take]; have:=h.gl; omega,h.il,h.rl⟩
 obtain ⟨p,k1,k2,k3,k4,k5,k6,k7,k8,s1,k9⟩:=C4l h1
 have hT:p.C8=p0.C8:=by
  have:A1t ⟨tt,[],[],[]⟩=A1t ⟨tt,m.A8.take gk,m.M9,m.F9⟩:=rfl
  rw [this,k9] at f9
  exact congrArg Prod.snd (Option.some.inj f9)
 have hgl:p.A8.length≤gk:=by simp only [List.length_take] at k7; omega
 refine ⟨p,N,?_,⟨k2,k4,k5⟩,k3,by rw [hT,hN],by simp only at k8; omega,by omega,by have:=B9c hgl hg2; omega,k6⟩
 unfold B0w
 rw [hmin,e1,Oz,f1,Oz,hse,Oz,hN]
 rw [hg,Oz,e2,Oz,k1]
 rfl
theorem D0U {N:Nat} (hN:N≤400):∀ {G:Nat},G≤N→Wk N G≤20000→∃ w,A6i (N:Int) (G:Int)=some w∧w≤20000:=by
 intro G hG hw
 obtain ⟨r,hr,q,rfl,hq⟩:=M8 (f:=A6r (N:Int) (G:Int)) (fun s=>∃ k:Nat,s.2=(k:Int)∧k≤G∧s.1=Wk N k) (fun s=>G - s.2.toNat) (fun r=>∃ q,r=.inl q∧q≤20000) (fun s hs=>by
  obtain ⟨w,i⟩:=s
  obtain ⟨k,rfl,hk,rfl⟩:=hs
  simp only [A6r]
  have hp:=B7R (N:=N) (k:=k) (by omega)
  have hm1:=B9c (N:=N) (j:=k) (k:=G) hk hG
  by_cases hlt:k < G
  ·left
   have hm2:=B9c (N:=N) (j:=k + 1) (k:=G) (by omega) hG
   have hp2:=B7R (N:=N) (k:=k + 1) (by omega)
   have hu:Wk N (k + 1)=Wk N k * ((N:Int) - k):=rfl
   rw [Dt (by omega),Cy,A2p (by omega) (by omega),Oz,A2p (by omega) (by omega),Oz,Df (by omega),Cn,I4 (by omega)]
   exact ⟨_,rfl,⟨k + 1,rfl,by omega,rfl⟩,by simp; omega⟩
  ·right
   rw [Df (by omega)]
   exact ⟨_,rfl,_,rfl,by omega⟩) FUEL ((1:Int),(0:Int)) ⟨0,rfl,by omega,rfl⟩ (fuel' (by simp; omega))
 unfold A6i
 rw [hr]
 exact ⟨q,rfl,hq⟩
structure C3r (p:C9) (N:Nat):Prop where
 fit:Fit p
 n:(N:Int)=U2 p.C8
 g12:p.A8.length≤12
 le:p.A8.length≤N
 w:Wk N p.A8.length≤20000
theorem C3r.n24 {p:C9} {N:Nat} (h:C3r p N):N≤24:=by
 have:=h.fit.t.len
 have key:∀ l:List D5,(∀ t ∈ l,M6 t≤8)→U2 l≤8 * l.length:=by
  intro l
  induction l with
  | nil=>intro _; simp [U2]
  | cons t l ih=>
   intro hh
   have h1:=hh t (List.mem_cons_self ..)
   have h2:=ih fun x hx=>hh x (List.mem_cons_of_mem _ hx)
   have:U2 (t::l)=M6 t + U2 l:=by simp [U2]
   rw [this,List.length_cons]
   omega
 have:=key p.C8 fun t ht=>by
  obtain ⟨i,hi,rfl⟩:=List.getElem_of_mem ht
  exact (h.fit.t.t i _ (Lg hi)).2.2.2.1
 have:=h.n
 omega
theorem C4D {p:C9} {N:Nat} (h:C3r p N):∃ H,A0R p=some (some H,0)∧HOk H p N∧A6R p=some (some H.G5,0,0):=by
 obtain ⟨H,N',e,hH,hNew⟩:=C8G h.fit
 have:N'=N:=by have:=hH.j.n; have:=h.n; omega
 subst this
 obtain ⟨w,hw,hw2⟩:=D0U (by have:=h.n24; omega) h.le h.w
 refine ⟨H,?_,hH,hNew⟩
 unfold A0R
 rw [e,Oz]
 simp only [Dt rfl]
 rw [show decide True=true from rfl]
 simp only [Bool.not_true,Cn,Oz]
 rw [hH.tl,hw,Oz,Df (by omega)]
 rfl
def nob (p:C9):List Int:=List.replicate p.A8.length (-1)
theorem B3l (N:Nat) (p:C9):A2I N p.A8.length (nob p):=by
 refine ⟨by simp [nob],fun x hx=>?_,fun i j x _ hi _=>?_⟩
 ·have:=List.eq_of_mem_replicate hx; subst this; omega
 ·exact List.eq_of_mem_replicate (A0T hi)
theorem C2n {p:C9} {H:M0} {N:Nat} (hv:Vld p) (hH:HOk H p N):A2V H=some (nob p):=by
 unfold A2V
 rw [hH.fp,C6e _ (by have:=hv.B2y; omega)]
 rfl
theorem C0C {d:List Int→Bool} (N M:Nat) (hNM:N≤M) (hM:1≤M):∀ (n:Nat) (part:List Int),(A1i d N n part).length≤M ^ opens part
 | 0,part=>by simp [A1i]
 | n + 1,part=>by
  unfold A1i
  by_cases hd:d part=true
  ·rw [if_pos hd]; simp
  ·rw [if_neg hd]
   by_cases hf:free part < 0
   ·rw [if_pos hf]
    exact Nat.one_le_pow _ _ hM
   ·rw [if_neg hf]
    have hf':0≤free part:=by omega
    have key:∀ l:List Nat,(l.flatMap fun (s:Nat)=>if part.any (fun y=>decide ((s:Int)=y)) then [] else A1i d N n (part.set (free part).toNat (s:Int))).length≤l.length * M ^ (opens part - 1):=by
     intro l
     induction l with
     | nil=>simp
     | cons s l ih=>
      rw [List.flatMap_cons,List.length_append,List.length_cons,Nat.add_mul,Nat.one_mul]
      have:(if part.any (fun y=>decide ((s:Int)=y)) then [] else A1i d N n (part.set (free part).toNat (s:Int))).length≤M ^ (opens part - 1):=by
       by_cases ha:(part.any fun y=>decide ((s:Int)=y))=true
       ·rw [if_pos ha]; simp
       ·rw [if_neg ha]
        have h1:=C0C (d:=d) N M hNM hM n (part.set (free part).toNat (s:Int))
        have h2:=B4u hf' (s:=(s:Int)) (by omega)
        rw [show opens part - 1=opens (part.set (free part).toNat (s:Int)) by omega]
        exact h1
      omega
    have h1:=key (List.range N)
    rw [List.length_range] at h1
    have h2:=B4u hf' (s:=(0:Int)) (by omega)
    have h4:N * M ^ (opens part - 1)≤M * M ^ (opens part - 1):=Nat.mul_le_mul_right _ hNM
    have h3:M * M ^ (opens part - 1)=M ^ opens part:=by
     rw [show opens part=(opens part - 1) + 1 by omega,Nat.pow_succ,Nat.mul_comm]
     simp
    omega
end Go.Pl
namespace Go.Pl
open Go Go.Sl Go.Dm
abbrev A1o (H:M0) (p:C9) (N:Nat):List (List Int):=A1i (A6e H.G5 p) N A6c (nob p)
theorem C7w {p:C9} {N:Nat} (h:C3r p N) (H:M0):(A1o H p N).length≤36520347436056576:=by
 have h1:=C0C (d:=A6e H.G5 p) N 24 h.n24 (by omega) A6c (nob p)
 have h2:opens (nob p)≤12:=Nat.le_trans List.countP_le_length (by have:=h.g12; simp [nob]; omega)
 have h3:24 ^ opens (nob p)≤24 ^ 12:=Nat.pow_le_pow_right (by omega) h2
 have h4:24 ^ 12=36520347436056576:=by decide
 change (A1i (A6e H.G5 p) N A6c (nob p)).length≤_
 omega
theorem C3V {p:C9} {N:Nat} (h:C3r p N) {H:M0} (hb:A0R p=some (some H,0)) (hH:HOk H p N):∃ k,A2a p=some (((A1o H p N).length:Int),k,0):=by
 have hbig:=C7w h H
 let u:((Int×Int)⊕Unit)→List Int→((Int×Int)⊕Unit):=fun s x=>match s with
  | .inl (a,b)=>.inl (a + 1,if (A1O H x).getD false then b + 1 else b)
  | .inr y=>.inr y
 obtain ⟨hs,c,hc,hc0,hc1⟩:=C0V (A5x H) u (fun s k=>∃ c:Int,s=.inl ((k:Int),c)∧0≤c∧c≤k) (A1o H p N).length (A1o H p N) 0 (.inl ((0:Int),(0:Int))) ⟨0,rfl,by omega,by omega⟩ (by omega) (fun s k x hx hk hI=>by
  obtain ⟨c,rfl,hc0,hc1⟩:=hI
  obtain ⟨hP,_,hfull,_⟩:=B2h N p.A8.length A6c (nob p) x (B3l N p) hx
  obtain ⟨b,hcan⟩:=C9j h.fit hH hP hfull
  simp only [A5x,u,hcan,Option.getD_some]
  rw [I4 (by omega),Oz,Oz]
  cases b with
  | true=>
   simp only [Cy,if_true]
   rw [A0N (by omega) (by omega)]
   exact ⟨rfl,c + 1,rfl,by omega,by omega⟩
  | false=>exact ⟨rfl,c,rfl,by omega,by omega⟩)
 refine ⟨c,?_⟩
 unfold A2a
 rw [hb,Oz]
 simp only [Dt rfl]
 rw [show decide True=true from rfl]
 simp only [Bool.not_true,Cn,Oz]
 rw [C2n h.fit.v hH,Oz]
 simp only [A3Q,Oz]
 rw [C0N h.fit.v hH _ (B3l N p),hs]
 simp only [Oz,hc]
 simp
def B6H (j:P9) (p:C9) (x:List Int):Int:=C3J p.F9 (A1h (mkv j x))
def ub (cost:List Int→Int) (s:List Int×Int×Bool) (x:List Int):List Int×Int×Bool:=if !s.2.2 || decide (cost x < s.2.1) then (x,cost x,true) else s
theorem C3p (cost:List Int→Int):∀ (l:List (List Int)) (s:List Int×Int×Bool),s.2.2=true→(l.foldl (ub cost) s).2.2=true∧(l.foldl (ub cost) s).2.1≤s.2.1∧(∀ x ∈ l,(l.foldl (ub cost) s).2.1≤cost x)∧(l.foldl (ub cost) s=s∨((l.foldl (ub cost) s).1 ∈ l∧(l.foldl (ub cost) s).2.1=cost (l.foldl (ub cost) s).1))
 | [],s,h=>⟨h,Int.le_refl _,fun x hx=>(by cases hx),.inl rfl⟩
 | x::l,s,h=>by
  rw [List.foldl_cons]
  by_cases hq:cost x < s.2.1
  ·have e:ub cost s x=(x,cost x,true):=by unfold ub; rw [Dt hq]; simp
   rw [e]
   obtain ⟨h1,h2,h3,h4⟩:=C3p cost l (x,cost x,true) rfl
   refine ⟨h1,by simp only at h2; omega,fun y hy=>?_,.inr ?_⟩
   ·rcases List.mem_cons.1 hy with rfl | hy
    ·exact h2
    ·exact h3 y hy
   ·rcases h4 with h4 | ⟨h4,h5⟩
    ·rw [h4]; exact ⟨List.mem_cons_self ..,rfl⟩
    ·exact ⟨List.mem_cons_of_mem _ h4,h5⟩
  ·have e:ub cost s x=s:=by unfold ub; rw [Df hq,h]; simp
   rw [e]
   obtain ⟨h1,h2,h3,h4⟩:=C3p cost l s h
   refine ⟨h1,h2,fun y hy=>?_,?_⟩
   ·rcases List.mem_cons.1 hy with rfl | hy
    ·omega
    ·exact h3 y hy
   ·rcases h4 with h4 | ⟨h4,h5⟩
    ·exact .inl h4
    ·exact .inr ⟨List.mem_cons_of_mem _ h4,h5⟩
theorem C2S {p:C9} {N:Nat} (h:C3r p N) {H:M0} (hb:A0R p=some (some H,0)) (hH:HOk H p N) :
  (A1o H p N=[]∧A2U p=some (A3D.mk [] 0,9))∨∃ x ∈ A1o H p N,A2U p=some (A3D.mk x (B6H H.G5 p x),0)∧∀ y ∈ A1o H p N,B6H H.G5 p x≤B6H H.G5 p y:=by
 let cost:=B6H H.G5 p
 let u:((List Int×Int×Bool)⊕Unit)→List Int→((List Int×Int×Bool)⊕Unit):=fun s x=>match s with
  | .inl s=>.inl (ub cost s x)
  | .inr y=>.inr y
 have hu:∀ (l:List (List Int)) (s:List Int×Int×Bool),l.foldl u (.inl s)=.inl (l.foldl (ub cost) s):=by
  intro l
  induction l with
  | nil=>intro s; rfl
  | cons x l ih=>intro s; rw [List.foldl_cons,List.foldl_cons]; exact ih _
 obtain ⟨hs,_⟩:=C0V (A6Q H) u (fun s k=>∃ q,s=.inl q) (A1o H p N).length (A1o H p N) 0 (.inl (([]:List Int),(0:Int),false)) ⟨_,rfl⟩ (by omega) (fun s k x hx hk hI=>by
  obtain ⟨⟨pl,c,b⟩,rfl⟩:=hI
  obtain ⟨hP,_,hfull,_⟩:=B2h N p.A8.length A6c (nob p) x (B3l N p) hx
  have hcl:A0Y x=some x:=C3c (by rw [hP.len]; have:=h.g12; omega)
  simp only [A6Q,D0f h.fit.v hH.j hP,Oz,hcl,u,ub]
  change _∧_
  cases b with
  | false=>exact ⟨rfl,_,rfl⟩
  | true=>
   simp only [Bool.not_true,Cn,Bool.false_or]
   by_cases hq:C3J p.F9 (A1h (mkv H.G5 x)) < c
   ·rw [Dt hq]
    have hq':cost x < c:=hq
    rw [Dt hq']
    exact ⟨rfl,_,rfl⟩
   ·rw [Df hq]
    have hq':¬ cost x < c:=hq
    rw [Df hq']
    exact ⟨rfl,_,rfl⟩)
 have hB:A2U p=(match (A1o H p N).foldl (ub cost) (([]:List Int),(0:Int),false) with | (plan,c,b)=>bif !b then some (A3D.mk ([]:List Int) (0:Int),(9:Int)) else some (A3D.mk plan c,(0:Int))):=by
  unfold A2U
  rw [hb,Oz]
  simp only [Dt rfl]
  rw [show decide True=true from rfl]
  simp only [Bool.not_true,Cn,Oz]
  rw [C2n h.fit.v hH,Oz]
  simp only [A3Q,Oz]
  rw [C0N h.fit.v hH _ (B3l N p),hs,hu]
  rfl
 rw [hB]
 cases hl:A1o H p N with
 | nil=>exact .inl ⟨rfl,rfl⟩
 | cons x l=>
  right
  rw [List.foldl_cons]
  have e:ub cost (([]:List Int),(0:Int),false) x=(x,cost x,true):=rfl
  rw [e]
  obtain ⟨h1,h2,h3,h4⟩:=C3p cost l (x,cost x,true) rfl
  have hmem:(l.foldl (ub cost) (x,cost x,true)).1 ∈ x::l∧(l.foldl (ub cost) (x,cost x,true)).2.1=cost (l.foldl (ub cost) (x,cost x,true)).1:=by
   rcases h4 with h4 | ⟨h4,h5⟩
   ·rw [h4]; exact ⟨List.mem_cons_self ..,rfl⟩
   ·exact ⟨List.mem_cons_of_mem _ h4,h5⟩
  generalize l.foldl (ub cost) (x,cost x,true)=r at *
  obtain ⟨pl,c,b⟩:=r
  simp only at h1 h2 h3 hmem
  subst h1
  refine ⟨pl,hmem.1,?_,fun y hy=>?_⟩
  ·simp only [Bool.not_true,Cn]
   rw [hmem.2]
  ·have:cost pl≤cost y:=by
    rw [←hmem.2]
    rcases List.mem_cons.1 hy with rfl | hy
    ·exact h2
    ·exact h3 y hy
   exact this
def less (p:C9) (k:Nat):C9:=⟨p.C8,p.A8,p.M9,p.R8,p.F9.eraseIdx k⟩
def B5x (j:P9) (q:C9):P9:=⟨q,j.B7L,j.A0d,j.B6f,j.C2v,j.Y5,j.A0D,j.A2E,j.B0q,j.A0E⟩
theorem C4M {p:C9} (h:Fit p) (k:Nat):Fit (less p k):=by
 have hsub:∀ r ∈ (less p k).F9,r ∈ p.F9:=fun r hr=>List.mem_of_mem_eraseIdx hr
 have hlen:(less p k).F9.length≤p.F9.length:=List.length_eraseIdx_le ..
 have h12:=h.r
 have hmx:=mx
 refine ⟨Vld.of ⟨h.v.ok.ts,h.v.ok.r,h.v.ok.cl,by omega,fun r hr=>h.v.ok.u r (hsub r hr)⟩ h.v.h.v h.v.roll h.v.rest.1 h.v.rest.2.1 h.v.rest.2.2 (by omega) (fun r hr=>h.v.rule (hsub r hr)),h.t,by omega⟩
theorem C9d {p:C9} (h:Fit p) (k:Nat) {j:P9} (hj:A6R p=some (some j,0,0)):A6R (less p k)=some (some (B5x j (less p k)),0,0):=by
 have hq:=(C4M h k).v
 have hp:=h.v
 obtain ⟨T,G,Ti,C,R⟩:=p
 have e0:A5X ⟨T,G,Ti,C,R⟩=A5X (less ⟨T,G,Ti,C,R⟩ k):=rfl
 have e2:∀ tb lv op bs ac,A6f ⟨T,G,Ti,C,R⟩ KM tb lv op bs ac=A6f (less ⟨T,G,Ti,C,R⟩ k) KM tb lv op bs ac:=fun _ _ _ _ _=>rfl
 have e3:A5R ⟨T,G,Ti,C,R⟩=A5R (less ⟨T,G,Ti,C,R⟩ k):=rfl
 have eg:(less ⟨T,G,Ti,C,R⟩ k).A8=G:=rfl
 have et:(less ⟨T,G,Ti,C,R⟩ k).M9=Ti:=rfl
 simp only [A6R,A3I hp.ok,hp.eq,A3I hq.ok,hq.eq,Oz,decide_true,Bool.not_true,Cn,B3R,B3E hp,B3E hq,B9o,e0,e2,e3,eg,et] at hj ⊢
 obtain ⟨⟨tb,lv,op,bs,ac⟩,h1,hj⟩:=bnd hj
 obtain ⟨st,h2,hj⟩:=bnd hj
 obtain ⟨⟨b,x,y⟩,h3,hj⟩:=bnd hj
 obtain ⟨⟨cm,ti⟩,h4,hj⟩:=bnd hj
 simp only at h2 h3 h4 hj
 rw [h1]
 simp only [Oz]
 rw [h2]
 simp only [Oz]
 rw [h3]
 simp only [Oz]
 rw [h4]
 cases hj
 rfl
theorem C4j (T:List D5) (G:List E8) (Ti:List H7) (C:List Int) (R R':List F3) (k:List (Int×G7)) (tb lv:List Int) (op:List Bool) (bs ac:List (List Int)) (st:List (List (Int×Int))) (cm:List (List Bool)) (ti:List (List Int)) (part:List Int) (t:Int):∀ n,B8G (mkv ⟨⟨T,G,Ti,C,R⟩,k,tb,lv,op,bs,ac,st,cm,ti⟩ part) t n=B8G (mkv ⟨⟨T,G,Ti,C,R'⟩,k,tb,lv,op,bs,ac,st,cm,ti⟩ part) t n
 | 0=>rfl
 | n + 1=>by
  unfold B8G
  rw [C4j T G Ti C R R' k tb lv op bs ac st cm ti part t n]
  rfl
theorem C7p (T:List D5) (G:List E8) (Ti:List H7) (C:List Int) (R R':List F3) (k:List (Int×G7)) (tb lv:List Int) (op:List Bool) (bs ac:List (List Int)) (st:List (List (Int×Int))) (cm:List (List Bool)) (ti:List (List Int)) (part:List Int) (r:F3):B7z (mkv ⟨⟨T,G,Ti,C,R⟩,k,tb,lv,op,bs,ac,st,cm,ti⟩ part) r=B7z (mkv ⟨⟨T,G,Ti,C,R'⟩,k,tb,lv,op,bs,ac,st,cm,ti⟩ part) r:=by
 have h:B8G (mkv ⟨⟨T,G,Ti,C,R⟩,k,tb,lv,op,bs,ac,st,cm,ti⟩ part)=B8G (mkv ⟨⟨T,G,Ti,C,R'⟩,k,tb,lv,op,bs,ac,st,cm,ti⟩ part):=funext fun t=>funext fun n=>C4j T G Ti C R R' k tb lv op bs ac st cm ti part t n
 unfold B7z
 rw [h]
 rfl
theorem B8n (T:List D5) (G:List E8) (Ti:List H7) (C:List Int) (R R':List F3) (k:List (Int×G7)) (tb lv:List Int) (op:List Bool) (bs ac:List (List Int)) (st:List (List (Int×Int))) (cm:List (List Bool)) (ti:List (List Int)) (part:List Int) (r:F3):A1h (mkv ⟨⟨T,G,Ti,C,R⟩,k,tb,lv,op,bs,ac,st,cm,ti⟩ part) r=A1h (mkv ⟨⟨T,G,Ti,C,R'⟩,k,tb,lv,op,bs,ac,st,cm,ti⟩ part) r:=by
 unfold A1h FL
 rw [C7p T G Ti C R R' k tb lv op bs ac st cm ti part r]
 rfl
theorem C5y (T:List D5) (G:List E8) (Ti:List H7) (C:List Int) (R R':List F3) (k:List (Int×G7)) (tb lv:List Int) (op:List Bool) (bs ac:List (List Int)) (st:List (List (Int×Int))) (cm:List (List Bool)) (ti:List (List Int)) (part:List Int) (r:F3):A3Z (mkv ⟨⟨T,G,Ti,C,R⟩,k,tb,lv,op,bs,ac,st,cm,ti⟩ part) r=A3Z (mkv ⟨⟨T,G,Ti,C,R'⟩,k,tb,lv,op,bs,ac,st,cm,ti⟩ part) r:=by
 unfold A3Z
 rw [B8n T G Ti C R R' k tb lv op bs ac st cm ti part r]
 rfl
theorem C8i {j:P9} {p:C9} (hj:j.P6=p) (k:Nat) (part:List Int) (r:F3):A1h (mkv (B5x j (less p k)) part) r=A1h (mkv j part) r:=by
 obtain ⟨q,_,_,_,_,_,_,_,_,_⟩:=j
 simp only at hj
 subst hj
 obtain ⟨T,G,Ti,C,R⟩:=q
 exact B8n ..
theorem C6M {j:P9} {p:C9} (hj:j.P6=p) (k:Nat) (part:List Int) (r:F3):A3Z (mkv (B5x j (less p k)) part) r=A3Z (mkv j part) r:=by
 obtain ⟨q,_,_,_,_,_,_,_,_,_⟩:=j
 simp only at hj
 subst hj
 obtain ⟨T,G,Ti,C,R⟩:=q
 exact C5y ..
theorem C2j {f:F3→Int}:∀ (l:List F3) (k:Nat),(∀ r ∈ l,0≤f r)→((l.eraseIdx k).map f).sum≤(l.map f).sum
 | [],k,_=>by simp
 | r::l,0,h=>by
  have:=h r (List.mem_cons_self ..)
  simp
  omega
 | r::l,k + 1,h=>by
  have:=C2j (f:=f) l k fun x hx=>h x (List.mem_cons_of_mem _ hx)
  simp
  omega
theorem C2E {f:F3→Bool}:∀ (l:List F3) (k:Nat) (r:F3),l[k]?=some r→f r=false→(l.eraseIdx k).any f=l.any f
 | [],k,_,h,_=>by simp at h
 | r::l,0,_,h,hf=>by
  simp at h
  subst h
  simp [hf]
 | r::l,k + 1,x,h,hf=>by
  have:=C2E (f:=f) l k x (by simpa using h) hf
  simp [this]
theorem C8S {j:P9} {p:C9} (hj:j.P6=p) (k:Nat) (part:List Int):A6e (B5x j (less p k)) (less p k) part=true→A6e j p part=true:=by
 unfold A6e C2y
 intro h
 obtain ⟨r,hr,hq⟩:=List.any_eq_true.1 h
 rw [C6M hj] at hq
 exact List.any_eq_true.2 ⟨r,List.mem_of_mem_eraseIdx hr,hq⟩
theorem C7h {j:P9} {p:C9} (hj:j.P6=p) {k:Nat} {r:F3} (hr:p.F9[k]?=some r) (hw:0 < r.J3) (part:List Int):A6e (B5x j (less p k)) (less p k) part=A6e j p part:=by
 unfold A6e C2y
 have:(fun r=>decide (r.J3=0) && decide (0 < A3Z (mkv (B5x j (less p k)) part) r))=(fun r=>decide (r.J3=0) && decide (0 < A3Z (mkv j part) r)):=funext fun r=>by rw [C6M hj]
 rw [this]
 exact C2E _ _ r hr (by rw [Df (by omega)]; rfl)
theorem C7c {p:C9} {N:Nat} (h:C3r p N) (k:Nat):C3r (less p k) N:=⟨C4M h.fit k,h.n,h.g12,h.le,h.w⟩
theorem C7t {p:C9} {N:Nat} (h:Fit p) {j:P9} (hj:JOk j p N) (k:Nat) {x:List Int} (hP:A2I N p.A8.length x):B6H (B5x j (less p k)) (less p k) x≤B6H j p x:=by
 unfold B6H C3J
 have:(fun r:F3=>if 0 < r.J3 then r.J3 * A1h (mkv (B5x j (less p k)) x) r else 0)=(fun r=>if 0 < r.J3 then r.J3 * A1h (mkv j x) r else 0):=funext fun r=>by rw [C8i hj.given]
 rw [this]
 refine C2j p.F9 k fun r hr=>?_
 by_cases hw:0 < r.J3
 ·rw [if_pos hw]
  exact Int.mul_nonneg (by omega) (((C2T h.v hj hP).fbd (h.v.rf hr)).1)
 ·rw [if_neg hw]; exact Int.le_refl _
theorem C5t {α:Type} {l:List α} {x:α} {i k:Nat} (hl:l.length=i):(l ++ [x]).eraseIdx k=if k=i then l else l.eraseIdx k ++ [x]:=by
 by_cases h:k=i
 ·rw [if_pos h,h,←hl,List.eraseIdx_append_of_length_le (by omega)]
  simp
 ·rw [if_neg h]
  by_cases h2:k < i
  ·rw [List.eraseIdx_append_of_lt_length (by omega)]
  ·rw [List.eraseIdx_of_length_le (by simp; omega),List.eraseIdx_of_length_le (by omega)]
theorem D0p {p:C9} (h:Fit p) {k:Nat} {rest:List Int} (hl:rest.length≤1000) (hr:∀ i:Nat,(rest.any fun y=>decide ((i:Int)=y))=(decide (i < p.F9.length) && !decide (i=k))):B3S p rest=some (less p k):=by
 have h12:=h.r
 obtain ⟨r,e,hq⟩:=M8 (f:=A8R p rest) (fun s=>∃ i:Nat,s.2=(i:Int)∧i≤p.F9.length∧s.1=(p.F9.take i).eraseIdx k) (fun s=>p.F9.length - s.2.toNat) (fun r=>r=p.F9.eraseIdx k) (fun s hs=>by
  obtain ⟨out,j⟩:=s
  obtain ⟨i,rfl,hi,rfl⟩:=hs
  simp only [A8R]
  by_cases hlt:i < p.F9.length
  ·left
   have htk:p.F9.take (i + 1)=p.F9.take i ++ [p.F9[i]]:=A7m (Lg hlt)
   have hel:((p.F9.take i).eraseIdx k).length≤1000:=by
    have h1:((p.F9.take i).eraseIdx k).length≤(p.F9.take i).length:=List.length_eraseIdx_le ..
    rw [List.length_take] at h1
    omega
   rw [Dt (by omega),Cy,X8 hlt,Oz,B7M (by rw [mx]; omega),Oz,hr i,Dt hlt,Bool.true_and,Z4 hel]
   simp only [Oz]
   rw [I4 (by omega)]
   have hsn:=C5t (l:=p.F9.take i) (x:=p.F9[i]) (i:=i) (k:=k) (by rw [List.length_take]; omega)
   by_cases hk:i=k
   ·rw [Dt hk]
    refine ⟨_,rfl,⟨i + 1,rfl,by omega,?_⟩,by simp; omega⟩
    simp only
    rw [htk,hsn,if_pos hk.symm,List.eraseIdx_of_length_le (by rw [List.length_take]; omega)]
   ·rw [Df hk]
    refine ⟨_,rfl,⟨i + 1,rfl,by omega,?_⟩,by simp; omega⟩
    simp only
    rw [htk,hsn,if_neg (fun e=>hk e.symm)]
  ·right
   have:i=p.F9.length:=by omega
   subst this
   rw [Df (by omega),List.take_length]
   exact ⟨_,rfl,rfl⟩) FUEL (([]:List F3),(0:Int)) ⟨0,rfl,by omega,by simp⟩ (fuel' (by simp; omega))
 unfold B3S
 rw [A3I h.v.ok,h.v.eq,Oz]
 simp only [Dt rfl]
 rw [show decide True=true from rfl]
 simp only [Bool.not_true,Cn]
 rw [B3E h.v,Oz,e,hq]
 rfl
theorem C7F (ha:A5P=some true) {m:R7} (h:B6Y m) (which:Int):A7w m which=some true:=by
 obtain ⟨p,N,hS,hp⟩:=C8b h
 have hs:C3r p N:=⟨hp.fit,hp.n,hp.gs.len,hp.le,by have:=hp.w; omega⟩
 obtain ⟨H,hb,hH,hNew⟩:=C4D hs
 obtain ⟨c,hC⟩:=C3V hs hb hH
 have h12:=hp.fit.r
 unfold A7w
 rw [hS,Oz]
 by_cases h0:(p.F9.length:Int)=0
 ·rw [Dt h0,Cy,hC,Oz]
  simp only
  have hpos:0 < (A1o H p N).length:=by
   have hnil:p.F9=[]:=List.eq_nil_of_length_eq_zero (by omega)
   have hdead:∀ part,A6e H.G5 p part=false:=fun part=>by unfold A6e C2y; rw [hnil]; rfl
   let x:List Int:=(List.range p.A8.length).map fun (g:Nat)=>(g:Int)
   have hx:A2I N p.A8.length x:=by
    refine ⟨by simp [x],fun y hy=>?_,fun i j y hij hi hj=>?_⟩
    ·obtain ⟨g,hg,rfl⟩:=List.mem_map.1 hy
     have:=List.mem_range.1 hg
     have:=hs.le
     omega
    ·simp only [x,List.getElem?_map,List.getElem?_range] at hi hj
     have hi':i < p.A8.length:=by
      by_cases h:i < p.A8.length
      ·exact h
      ·rw [List.getElem?_eq_none (by simp; omega)] at hi; cases hi
     have hj':j < p.A8.length:=by
      by_cases h:j < p.A8.length
      ·exact h
      ·rw [List.getElem?_eq_none (by simp; omega)] at hj; cases hj
     rw [Lg (by simpa using hi')] at hi
     rw [Lg (by simpa using hj')] at hj
     simp at hi hj
     omega
   have hmem:x ∈ A1o H p N:=B9k N p.A8.length x hx (fun y hy=>by
    obtain ⟨g,hg,rfl⟩:=List.mem_map.1 hy
    omega) (hdead x) A6c (nob p) (B3l N p) (Nat.lt_of_le_of_lt List.countP_le_length (by simp only [nob,List.length_replicate]; exact Nat.lt_of_le_of_lt hs.g12 (by decide))) (fun g s hg hsn=>by
     have:=List.eq_of_mem_replicate (A0T hg)
     exact absurd this hsn) (fun part _ _=>hdead part)
   exact List.length_pos_of_mem hmem
  rw [Dt (by omega),ha]
  rfl
 ·rw [Df h0,Cn]
  obtain ⟨k,hk,hkl⟩:=D0T (c:=p.F9.length) (by omega) (by omega) which
  rw [hk,Oz]
  obtain ⟨rest,hr,hr1,hr2⟩:=M8 (f:=A2B p (k:Int)) (fun s=>∃ i:Nat,s.2=(i:Int)∧i≤p.F9.length∧s.1.length≤i∧∀ q:Nat,(s.1.any fun y=>decide ((q:Int)=y))=(decide (q < i) && !decide (q=k))) (fun s=>p.F9.length - s.2.toNat) (fun r=>r.length≤1000∧∀ q:Nat,(r.any fun y=>decide ((q:Int)=y))=(decide (q < p.F9.length) && !decide (q=k))) (fun s hs=>by
   obtain ⟨out,j⟩:=s
   obtain ⟨i,rfl,hi,hl,ho⟩:=hs
   simp only at hl ho
   simp only [A2B]
   by_cases hlt:i < p.F9.length
   ·left
    rw [Dt (by omega),Cy,Z4 (by omega)]
    simp only [Oz]
    rw [I4 (by omega)]
    by_cases hik:i=k
    ·rw [Dt (show (i:Int)=(k:Int) by omega)]
     refine ⟨_,rfl,⟨i + 1,rfl,by omega,by simp only; omega,fun q=>?_⟩,by simp; omega⟩
     simp only
     rw [ho q]
     by_cases hq:q=k
     ·rw [Dt hq]; simp
     ·rw [Df hq]
      by_cases hq2:q < i
      ·rw [Dt hq2,Dt (show q < i + 1 by omega)]
      ·rw [Df hq2,Df (show ¬ q < i + 1 by omega)]
    ·rw [Df (show ¬ (i:Int)=(k:Int) by omega)]
     refine ⟨_,rfl,⟨i + 1,rfl,by omega,by simp; omega,fun q=>?_⟩,by simp; omega⟩
     simp only
     rw [List.any_append,ho q]
     simp only [List.any_cons,List.any_nil,Bool.or_false]
     by_cases hq:q=i
     ·rw [Dt (show (q:Int)=(i:Int) by omega),Dt (show q < i + 1 by omega),Df (show ¬ q=k by omega)]
      simp
     ·rw [Df (show ¬ (q:Int)=(i:Int) by omega)]
      by_cases hq2:q < i
      ·rw [Dt hq2,Dt (show q < i + 1 by omega)]; simp
      ·rw [Df hq2,Df (show ¬ q < i + 1 by omega)]; simp
   ·right
    have:i=p.F9.length:=by omega
    subst this
    rw [Df (by omega)]
    exact ⟨_,rfl,by omega,ho⟩) FUEL (([]:List Int),(0:Int)) ⟨0,rfl,by omega,by simp,fun q=>by simp⟩ (fuel' (by simp; omega))
  rw [hr,Oz]
  unfold A8O
  rw [D0p hp.fit hr1 hr2,Oz,hC,Oz]
  have hs':=C7c hs k
  obtain ⟨H',hb',hH',hNew'⟩:=C4D hs'
  obtain ⟨c',hC'⟩:=C3V hs' hb' hH'
  have hjj:H'.G5=B5x H.G5 (less p k):=by
   have:=C9d hp.fit k hNew
   rw [hNew'] at this
   exact Option.some.inj (congrArg Prod.fst (Option.some.inj this))
  have hgiv:=hH.j.given
  have hsub:(A1o H p N).Sublist (A1o H' (less p k) N):=by
   have e:nob (less p k)=nob p:=rfl
   unfold A1o
   rw [hjj,e]
   exact B5z N p.A8.length (fun part _=>C8S hgiv k part) A6c (nob p) (B3l N p)
  have hle:=hsub.length_le
  have hx:=Lg hkl
  simp only [hC',Oz]
  rw [show J8 ((0:Int) + (0:Int))=some (0:Int) from rfl,Oz]
  simp only [Dt rfl]
  rw [show decide True=true from rfl]
  simp only [Bool.not_true,Cn]
  rw [Df (show ¬ ((A1o H' (less p k) N).length:Int) < ((A1o H p N).length:Int) by omega),Cn,X8 hkl,Oz]
  have hwt:(bif decide (0 < p.F9[k].J3) then some (!decide (((A1o H p N).length:Int)=((A1o H' (less p k) N).length:Int))) else some false)=some false:=by
   by_cases hw:0 < p.F9[k].J3
   ·have hsub2:(A1o H' (less p k) N).Sublist (A1o H p N):=by
     have e:nob (less p k)=nob p:=rfl
     unfold A1o
     rw [hjj,e]
     exact B5z N p.A8.length (fun part _ hh=>by rw [C7h hgiv hx hw]; exact hh) A6c (nob p) (B3l N p)
    have:=hsub2.length_le
    rw [Dt hw,Dt (by omega)]
    rfl
   ·rw [Df hw]; rfl
  rw [hwt,Oz,Cn]
  unfold A8K
  rcases C2S hs hb hH with ⟨hn,hB⟩ | ⟨x,hx1,hB,hx2⟩
  ·rw [hB,Oz]
   simp only
   rcases C2S hs' hb' hH' with ⟨hn',hB'⟩ | ⟨y,hy1,hB',hy2⟩
   ·rw [hB',Oz,hn']
    simp only [List.length_nil]
    rw [ha]
    rfl
   ·have hpos:0 < (A1o H' (less p k) N).length:=List.length_pos_of_mem hy1
    rw [hB',Oz]
    simp only
    rw [Dt (show (0:Int) < ((A1o H' (less p k) N).length:Int) by omega),ha]
    rfl
  ·rw [hB,Oz]
   simp only
   rcases C2S hs' hb' hH' with ⟨hn',hB'⟩ | ⟨y,hy1,hB',hy2⟩
   ·have:=hsub.subset hx1
    rw [hn'] at this
    cases this
   ·have h1:=hy2 x (hsub.subset hx1)
    have hP:=(B2h N p.A8.length A6c (nob p) x (B3l N p) hx1).1
    have h2:=C7t hp.fit hH.j k hP
    rw [hjj] at h1
    rw [hB',Oz]
    simp only
    rw [hjj,Dt (show B6H (B5x H.G5 (less p k)) (less p k) y≤B6H H.G5 p x by omega),ha]
    rfl
end Go.Pl
