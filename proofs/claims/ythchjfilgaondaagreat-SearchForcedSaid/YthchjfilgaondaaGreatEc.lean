import Derived.Test.YthchjfilgaondaaGreatEb
/- Plain laws. -/
set_option maxRecDepth 1000000
set_option maxHeartbeats 40000000
set_option linter.unusedVariables false
set_option linter.unusedSimpArgs false
set_option linter.unusedSectionVars false
set_option linter.unnecessarySimpa false
namespace Go.Pl
open Go Go.Sl Go.Dm
def A4N (c x:List Int):List Int:=List.zipWith (λo s=>if o=s then o else -1) c x
theorem C6x (x:List Int):A4N x x=x:=by
 unfold A4N
 induction x with
 | nil=>rfl
 | cons a x ih=>simp [ih]
theorem B8g {c x:List Int} (h:c.length=x.length):(A4N c x).length=c.length:=by unfold A4N; simp [h]
theorem C5J {c x:List Int} {g:Nat} {a b:Int} (ha:c[g]?=some a) (hb:x[g]?=some b):(A4N c x)[g]?=some (if a=b then a else -1):=by
 unfold A4N
 rw [List.getElem?_zipWith,ha,hb]
theorem fold_at {G g:Nat}:∀ (l:List (List Int)) (c:List Int) (a:Int),c.length=G→(∀ x∈l,x.length=G)→(∀ x∈l,∀ b,x[g]?=some b→b≠-1)→g<G→c[g]?=some a→
  (l.foldl A4N c).length=G∧(((∀ x∈l,x[g]?=some a)∧(l.foldl A4N c)[g]?=some a)∨((∃ x∈l,x[g]?≠some a)∧(l.foldl A4N c)[g]?=some (-1)))
 | [],c,a,hc,_,_,_,ha=>⟨hc,.inl ⟨(λx hx=>by cases hx),ha⟩⟩
 | x::l,c,a,hc,hl,hn,hg,ha=>by
  have hx:=hl x (List.mem_cons_self ..)
  have hgx:g<x.length:=by omega
  have eb:=Lg hgx
  have hb:=hn x (List.mem_cons_self ..) _ eb
  generalize x[g]=b at eb hb
  have hs:=C5J ha eb
  obtain ⟨h1,h2⟩:=fold_at l (A4N c x) _ (by rw [B8g (by omega)]; exact hc) (λy hy=>hl y (Mc _ hy)) (λy hy=>hn y (Mc _ hy)) hg hs
  refine ⟨h1,?_⟩
  rw [List.foldl_cons]
  by_cases hab:a=b
  ·subst hab
   rw [if_pos rfl] at h2
   rcases h2 with ⟨q1,q2⟩ | ⟨⟨y,hy,q1⟩,q2⟩
   ·exact .inl ⟨λy hy=>by
     rcases List.mem_cons.1 hy with rfl | hy
     ·exact eb
     ·exact q1 y hy,q2⟩
   ·exact .inr ⟨⟨y,Mc _ hy,q1⟩,q2⟩
  ·rw [if_neg hab] at h2
   refine .inr ⟨⟨x,List.mem_cons_self ..,by rw [eb]; intro e; exact hab (Option.some.inj e).symm⟩,?_⟩
   rcases h2 with ⟨_,q2⟩ | ⟨_,q2⟩ <;> exact q2
theorem D2b {c x:List Int} (h:c.length=x.length) (hx:x.length≤1000):iter (A2K x) FUEL (c,(0:Int))=some (A4N c x):=by
 obtain ⟨r,hr,hq⟩:=L6 (f:=A2K x) (λs=>∃ k:Nat,s.2=(k:Int)∧k≤x.length∧s.1.length=x.length∧(∀ g,g<k→s.1[g]?=(A4N c x)[g]?)∧∀ g,k≤g→s.1[g]?=c[g]?) (λs=>x.length - s.2.toNat) (λr=>r=A4N c x) (λs hs=>by
  obtain ⟨o,g⟩:=s
  obtain ⟨k,hk,hkn,hol,h1,h2⟩:=hs
  simp only at hk hol h1 h2
  subst hk
  simp only [A2K]
  by_cases hlt:k<x.length
  ·left
   have e1:=Lg hlt
   have e2:=Lg (show k<o.length by omega)
   have e3:=h2 k (Nat.le_refl _)
   rw [e2] at e3
   have e4:=C5J e3.symm e1
   rw [Dt (by omega:(k:Int)<(x.length:Int)),Cy,J2 e1,J2 e2,H6 (by omega)]
   simp only [Oz]
   by_cases he:o[k]=x[k]
   ·rw [if_pos he] at e4
    rw [Dt he]
    refine ⟨_,rfl,⟨k+1,rfl,by omega,hol,λg hg=>?_,λg hg=>h2 g (by omega)⟩,by dsimp only; omega⟩
    by_cases hgk:g=k
    ·subst hgk; rw [e4]; exact e2
    ·exact h1 g (by omega)
   ·rw [if_neg he] at e4
    rw [Df he]
    simp only [Bp,Cy,Oz,Zt]
    refine ⟨_,rfl,⟨k+1,rfl,by omega,by simp [hol],λg hg=>?_,λg hg=>?_⟩,by dsimp only; omega⟩
    ·by_cases hgk:g=k
     ·subst hgk; rw [e4]; exact List.getElem?_set_self (by omega)
     ·dsimp only; rw [List.getElem?_set_ne (by omega)]; exact h1 g (by omega)
    ·dsimp only; rw [List.getElem?_set_ne (by omega)]; exact h2 g (by omega)
  ·right
   rw [Df (by omega:¬ (k:Int)<(x.length:Int))]
   refine ⟨_,rfl,List.ext_getElem? λg=>?_⟩
   by_cases hg:g<x.length
   ·exact h1 g (by omega)
   ·rw [List.getElem?_eq_none (by omega),List.getElem?_eq_none (by rw [B8g h]; omega)]) FUEL (c,(0:Int)) ⟨0,rfl,by omega,h,λg hg=>by omega,λg _=>rfl⟩ (fuel' (by dsimp only; omega))
 rw [hr,hq]
def D0P (l:List (List Int)):List Int×Int:=match l with | []=>([],9) | x::l=>(l.foldl A4N x,0)
theorem C7X {p:C9} {N:Nat} (h:C7T p N) {H:M3} (hb:A0r p=some (some H,0)) (hH:HOk H p N):A3K p=some (D0P (A9B H p N)):=by
 let u:((List Int×Bool)⊕Unit)→List Int→((List Int×Bool)⊕Unit):=λs x=>match s with
  | .inl (c,b)=>.inl (if b then A4N c x else x,true)
  | .inr y=>.inr y
 have h12:=h.g12
 obtain ⟨hs,_⟩:=C5B A4H u (λs k=>∃ c b,s=.inl (c,b)∧(b=true→c.length=p.A7.length)) (A9B H p N).length (A9B H p N) 0 (.inl (([]:List Int),false)) ⟨[],false,rfl,λh=>by cases h⟩ (by omega) (λs k x hx hk hI=>by
  obtain ⟨c,b,rfl,hc⟩:=hI
  obtain ⟨hP,_,hfull,_⟩:=B2j N p.A7.length A4P (nob p) x (B3W N p) hx
  have hl:=hP.len
  have hcl:A0L x=some x:=C4k (by rw [hl]; omega)
  simp only [A4H,u]
  cases b with
  | false=>
   simp only [Bp,Cy,hcl,Oz,D2b (c:=x) (x:=x) rfl (by omega),C6x]
   exact ⟨rfl,_,_,rfl,λ_=>hl⟩
  | true=>
   have hcl':=hc rfl
   simp only [Bq,Cn,Oz,D2b (c:=c) (x:=x) (by omega) (by omega)]
   exact ⟨rfl,_,_,rfl,λ_=>by simp only [if_true]; rw [B8g (by omega)]; exact hcl'⟩)
 have hu:∀ (l:List (List Int)) (c:List Int),l.foldl u (.inl (c,true))=.inl (l.foldl A4N c,true):=by
  intro l
  induction l with
  | nil=>intro c; rfl
  | cons x l ih=>intro c; rw [List.foldl_cons,List.foldl_cons]; exact ih _
 unfold A3K
 rw [hb,Oz]
 simp only [Dt rfl]
 rw [show decide True=true from rfl]
 simp only [Bq,Cn,Oz]
 rw [C3k h.fit.v hH,Oz]
 simp only [A2r,Oz]
 rw [C1v h.fit.v hH _ (B3W N p),hs]
 unfold A9B
 cases A1o (Z7 H.F4 p) N A4P (nob p) with
 | nil=>rfl
 | cons x l=>
  rw [List.foldl_cons,show u (.inl (([]:List Int),false)) x=.inl (x,true) from rfl,hu]
  rfl
end Go.Pl
namespace Go.Pl
open Go Go.Sl Go.Dm
def B1h (d:List Int→Bool) (p:C9) (N g:Nat) (s:Nat):Bool:=!(A1o d N A4P ((nob p).set g (s:Int))).isEmpty
def A1j (d:List Int→Bool) (p:C9) (N g n:Nat):List Int:=((List.range n).filter (B1h d p N g)).map λ(s:Nat)=>(s:Int)
theorem C7J {p:C9} {N g s:Nat} (hg:g<p.A7.length) (hs:s<N):A0a N p.A7.length ((nob p).set g (s:Int)):=
 (B3W N p).D4l (by simp [nob]; exact hg) hs (λh=>by
  have:=List.eq_of_mem_replicate h
  omega)
theorem C3V (d:List Int→Bool) (p:C9) (N g n:Nat):A1j d p N g (n+1)=A1j d p N g n++(if B1h d p N g n then [(n:Int)] else []):=by
 unfold A1j
 rw [List.range_succ,List.filter_append,List.map_append]
 cases h:B1h d p N g n <;> simp [List.filter,h]
theorem B8S (d:List Int→Bool) (p:C9) (N g n:Nat):(A1j d p N g n).length≤n:=by
 unfold A1j
 rw [List.length_map]
 exact Nat.le_trans (List.length_filter_le _ _) (by simp)
theorem C3l {p:C9} {N:Nat} (h:C7T p N) {H:M3} (hb:A0r p=some (some H,0)) (hH:HOk H p N) {g:Nat} (hg:g<p.A7.length):A8f p (g:Int)=some (A1j (Z7 H.F4 p) p N g N,0):=by
 have h12:=h.g12
 have h24:=h.n24
 obtain ⟨r,hr,hq⟩:=L6 (f:=A4v (g:Int) H) (λs=>∃ k:Nat,s=(A1j (Z7 H.F4 p) p N g k,(k:Int))∧k≤N) (λs=>N - s.2.toNat) (λr=>r=A1j (Z7 H.F4 p) p N g N) (λs hs=>by
  obtain ⟨k,rfl,hk⟩:=hs
  simp only [A4v,hH.tl]
  by_cases hlt:k<N
  ·left
   have hnl:g<(nob p).length:=by simp [nob]; exact hg
   have hset:=C7J (p:=p) hg hlt
   have hlen:=B8S (Z7 H.F4 p) p N g k
   rw [Dt (by omega:(k:Int)<(N:Int)),Cy,C3k h.fit.v hH,Oz,J2 (Lg hnl),Oz,Oz,Zt]
   simp only [A2r,Oz]
   rw [C1v h.fit.v hH _ hset,H6 (by omega)]
   have hn:=C3V (Z7 H.F4 p) p N g k
   cases hL:A1o (Z7 H.F4 p) N A4P ((nob p).set g (k:Int)) with
   | nil=>
    rw [show B1h (Z7 H.F4 p) p N g k=false by unfold B1h; rw [hL]; rfl] at hn
    refine ⟨_,rfl,⟨k+1,?_,by omega⟩,by dsimp only; omega⟩
    rw [hn]
    simp
   | cons y l=>
    rw [show B1h (Z7 H.F4 p) p N g k=true by unfold B1h; rw [hL]; rfl] at hn
    have e:A4C (k:Int) (.inl (A1j (Z7 H.F4 p) p N g k)) y=some (.inr (A1j (Z7 H.F4 p) p N g k++[(k:Int)]),false):=by
     simp only [A4C,V4 (show (A1j (Z7 H.F4 p) p N g k).length≤1000 by omega),Oz]
    simp only [scan,e,Oz]
    refine ⟨_,rfl,⟨k+1,?_,by omega⟩,by dsimp only; omega⟩
    rw [hn]
    simp
  ·right
   rw [Df (by omega:¬ (k:Int)<(N:Int))]
   have:k=N:=by omega
   subst this
   exact ⟨_,rfl,rfl⟩) FUEL (([]:List Int),(0:Int)) ⟨0,rfl,by omega⟩ (fuel' (by dsimp only; omega))
 unfold A8f
 rw [hb,Oz]
 simp only [Dt rfl]
 rw [show decide True=true from rfl]
 simp only [Bq,Cn,Oz]
 rw [Df (by omega:¬ (g:Int)<0),Cn,Oz,Df (by omega:¬ (p.A7.length:Int)≤(g:Int)),Cn,hr,hq]
 rfl
end Go.Pl
namespace Go.Pl
open Go Go.Sl Go.Dm
theorem D0z:∀ (l:List D7) (s:Int) (i:Nat),0≤s→s<R8 l→∃ q,whR l s i=some q
 | [],s,i,h0,h1=>by simp [R8] at h1; omega
 | t::l,s,i,h0,h1=>by
  unfold whR
  by_cases h:s<M6 t
  ·rw [if_pos h]; exact ⟨_,rfl⟩
  ·rw [if_neg h]
   exact D0z l _ _ (by omega) (by simp [R8] at h1; simp [R8]; omega)
theorem C8R {p:C9} (hv:Vld p) {N s:Nat} (hN:(N:Int)=R8 p.C8) (hs:s<N):∃ a b,A1P p.C8 (s:Int)=some (a,b,true):=by
 obtain ⟨⟨i,k⟩,hq⟩:=D0z p.C8 (s:Int) 0 (by omega) (by omega)
 have hb:=A5M hv.h
 rw [C5z hv.h (by rw [mx]; omega),if_neg (by omega),hq]
 exact ⟨_,_,rfl⟩
theorem C5o (d:List Int→Bool) (p:C9) (N g:Nat):(A1j d p N g N).Pairwise (·<·):=by
 unfold A1j
 rw [List.pairwise_map]
 exact ((List.pairwise_lt_range (n:=N)).filter _).imp λh=>by omega
theorem C1n {d:List Int→Bool} {p:C9} {N g:Nat} {v:Int}:v∈A1j d p N g N↔∃ s:Nat,s<N∧v=(s:Int)∧B1h d p N g s=true:=by
 unfold A1j
 rw [List.mem_map]
 constructor
 ·rintro ⟨s,h,rfl⟩
  obtain ⟨h1,h2⟩:=List.mem_filter.1 h
  exact ⟨s,Mr.1 h1,rfl,h2⟩
 ·rintro ⟨s,h1,rfl,h2⟩
  exact ⟨s,List.mem_filter.2 ⟨Mr.2 h1,h2⟩,rfl⟩
theorem D1Q {F pl:List Int} {g:Nat} {f:Int} (hF:F[g]?=some f) (h1:∀ v,pl=[v]→f=v) (h2:1<pl.length→f=-1):A1U F (g:Int) pl=some false:=by
 unfold A1U
 by_cases hl:pl.length=1
 ·obtain ⟨v,rfl⟩:=List.length_eq_one_iff.1 hl
  have hv:=h1 v rfl
  subst hv
  rw [Dt (by simp),Cy,J2 hF,Oz,show G7 [f] (0:Int)=some f from rfl,Oz,Dt rfl,Bq,Cn,Df (by simp)]
  rfl
 ·rw [Df (by omega),Cn]
  by_cases hl2:1<pl.length
  ·rw [Dt (by omega),Cy,J2 hF,Oz,Dt (h2 hl2)]
   rfl
  ·rw [Df (by omega)]
   rfl
theorem D3U {p:C9} (hv:Vld p) {N g:Nat} (hN:(N:Int)=R8 p.C8) {x pl:List Int} {a:Int} (hx:x[g]?=some a) (hl:pl.length≤1000) (hs:pl.Pairwise (·<·)) (hm:∀ v∈pl,∃ s:Nat,s<N∧v=(s:Int)) :
  iter (A0O p (g:Int) x pl) FUEL (false,(0:Int))=some (.inl (pl.any λv=>decide (v=a))):=by
 obtain ⟨r,hr,hq⟩:=L6 (f:=A0O p (g:Int) x pl) (λs=>∃ k:Nat,s=((pl.take k).any (λv=>decide (v=a)),(k:Int))∧k≤pl.length) (λs=>pl.length - s.2.toNat) (λr=>r=.inl (pl.any λv=>decide (v=a))) (λs hs'=>by
  obtain ⟨k,rfl,hk⟩:=hs'
  simp only [A0O]
  by_cases hlt:k<pl.length
  ·left
   have e1:=Lg hlt
   obtain ⟨s,hsN,es⟩:=hm _ (Gm hlt)
   obtain ⟨w1,w2,hw⟩:=C8R hv hN hsN
   have ht:(pl.take (k+1)).any (λv=>decide (v=a))=((pl.take k).any (λv=>decide (v=a)) || decide (pl[k]=a)):=by
    rw [List.take_succ_eq_append_getElem hlt,List.any_append]; simp
   have hi:(bif (pl.take k).any (λv=>decide (v=a)) then some true else Option.bind (G7 pl (k:Int)) λe179=>Option.bind (G7 x (g:Int)) λe182=>some (decide (e179=e182)))=some ((pl.take (k+1)).any (λv=>decide (v=a))):=by
    rw [ht,J2 e1,J2 hx]
    cases (pl.take k).any (λv=>decide (v=a)) <;> rfl
   rw [Dt (by omega:(k:Int)<(pl.length:Int)),Cy,hi,Oz]
   unfold A7m
   rw [J2 e1,Oz,es,hw,Oz]
   simp only [Bq,Cn]
   by_cases h0:0<k
   ·have e2:=Lg (show k - 1<pl.length by omega)
    have hlt2:=List.pairwise_iff_getElem.1 hs (k - 1) k (by omega) hlt (by omega)
    rw [Dt (by omega:(0:Int)<(k:Int)),Cy,Oz,show (k:Int) - 1=((k - 1:Nat):Int) by omega,A2d (by omega) (by omega),Oz,J2 e2,Oz,Df (by omega),Cn,H6 (by omega)]
    exact ⟨_,rfl,⟨k+1,rfl,by omega⟩,by dsimp only; omega⟩
   ·rw [Df (by omega:¬ (0:Int)<(k:Int)),Cn,H6 (by omega)]
    exact ⟨_,rfl,⟨k+1,rfl,by omega⟩,by dsimp only; omega⟩
  ·right
   rw [Df (by omega:¬ (k:Int)<(pl.length:Int))]
   have:k=pl.length:=by omega
   subst this
   rw [List.take_length]
   exact ⟨_,rfl,rfl⟩) FUEL (false,(0:Int)) ⟨0,rfl,by omega⟩ (fuel' (by dsimp only; omega))
 rw [hr,hq]
theorem C4A (ha:A6g=some true) {m:R6} (h:B7a m) {seats:List Int} (hse:seats.length≤maxLen):A5Q m seats=some true:=by
 obtain ⟨p,N,hS,hp⟩:=C9E h
 have hs:C7T p N:=⟨hp.fit,hp.n,hp.gs.len,hp.le,by have:=hp.w; omega⟩
 obtain ⟨H,N',ho,hH,hNew⟩:=C9M hs.fit
 have:N'=N:=by have:=hH.j.n; have:=hs.n; omega
 subst this
 have hb:=C9k hs ho hH
 have h12:=hs.g12
 have h24:=hs.n24
 have hv:=hs.fit.v
 obtain ⟨x,e2,hX,hXf,_⟩:=D1h hs.fit.t (by omega) hs.n hs.le (B3W N' p) seats
 have hR:=C9G hv hH.j hX hXf
 have hgood:∀ q y:List Int,A0a N' p.A7.length q→A0a N' p.A7.length y→(∀ z∈y,z≠-1)→Exn q y→Z7 H.F4 p y=false→y∈A1o (Z7 H.F4 p) N' A4P q:=λq y hq hy hyf hqe hd=>
  C0S N' p.A7.length y hy hyf hd A4P q hq (Nat.lt_of_le_of_lt List.countP_le_length (by rw [hq.len]; exact Nat.lt_of_le_of_lt h12 (by decide))) hqe (λq' hq' he'=>C7Y hv hH.j hq' hy hyf he' hd)
 have hnobE:∀ y:List Int,Exn (nob p) y:=λy g s hg hsn=>absurd (List.eq_of_mem_replicate (A0C hg)) hsn
 have hmem:∀ y,y∈A9B H p N'→A0a N' p.A7.length y∧Z7 H.F4 p y=false∧∀ z∈y,z≠-1:=λy hy=>by
  obtain ⟨q1,q2,q3,_⟩:=B2j N' p.A7.length A4P (nob p) y (B3W N' p) hy
  exact ⟨q1,q2,q3⟩
 have hseat:∀ y,y∈A9B H p N'→∀ g,g<p.A7.length→∃ s:Nat,s<N'∧y[g]?=some (s:Int):=λy hy g hg=>by
  obtain ⟨q1,_,q3⟩:=hmem y hy
  have hgl:g<y.length:=by rw [q1.len]; exact hg
  have e:=Lg hgl
  have b1:=q1.bd _ (Gm hgl)
  have b2:=q3 _ (Gm hgl)
  obtain ⟨s,hs'⟩:=Zn (show 0≤y[g] by omega)
  exact ⟨s,by omega,by rw [e,hs']⟩
 have hplace:∀ g s:Nat,g<p.A7.length→s<N'→(B1h (Z7 H.F4 p) p N' g s=true↔∃ y∈A9B H p N',y[g]?=some (s:Int)):=λg s hg hsN=>by
  have hset:=C7J (p:=p) hg hsN
  have hgn:g<(nob p).length:=by simp [nob]; exact hg
  unfold B1h
  constructor
  ·intro hq
   cases hL:A1o (Z7 H.F4 p) N' A4P ((nob p).set g (s:Int)) with
   | nil=>rw [hL] at hq; cases hq
   | cons y l=>
    obtain ⟨q1,q2,q3,q4⟩:=B2j N' p.A7.length A4P _ y hset (by rw [hL]; exact List.mem_cons_self ..)
    exact ⟨y,hgood (nob p) y (B3W N' p) q1 q3 (hnobE y) q2,q4 g (s:Int) (List.getElem?_set_self hgn) (by omega)⟩
  ·rintro ⟨y,hy,hys⟩
   obtain ⟨q1,q2,q3⟩:=hmem y hy
   have:=hgood _ y hset q1 q3 (λg' t hg' ht=>by
    rw [List.getElem?_set] at hg'
    by_cases e:g=g'
    ·subst e
     rw [if_pos rfl,if_pos hgn] at hg'
     cases hg'
     exact hys
    ·rw [if_neg e] at hg'
     exact absurd (List.eq_of_mem_replicate (A0C hg')) ht) q2
   cases hL:A1o (Z7 H.F4 p) N' A4P ((nob p).set g (s:Int)) with
   | nil=>rw [hL] at this; cases this
   | cons y l=>rfl
 have hpl:∀ g,g<p.A7.length→∀ v:Int,v∈A1j (Z7 H.F4 p) p N' g N'↔∃ y∈A9B H p N',y[g]?=some v:=λg hg v=>by
  rw [C1n]
  constructor
  ·rintro ⟨s,h1,rfl,h2⟩
   exact (hplace g s hg h1).1 h2
  ·rintro ⟨y,hy,hys⟩
   obtain ⟨s,h1,h2⟩:=hseat y hy g hg
   rw [hys] at h2
   cases h2
   exact ⟨s,h1,rfl,(hplace g s hg h1).2 ⟨y,hy,hys⟩⟩
 have hF:=C7X hs hb hH
 have hsome:B1X p seats=some x:=by
  unfold B1X
  rw [D1B (by omega),Oz,e2]
  rfl
 unfold A5Q
 rw [hS,Oz,hNew,Oz]
 simp only [Option.isNone_some,Cn,Dt rfl]
 rw [show decide True=true from rfl,Bq,Oz,Cn]
 unfold A7i
 rw [hsome,Oz]
 cases hL:A9B H p N' with
 | nil=>
  rw [hL] at hF hpl
  have hF:A3K p=some ([],9):=hF
  have hd:Z7 H.F4 p x=true:=by
   cases hq:Z7 H.F4 p x with
   | true=>rfl
   | false=>
    have:x∈A9B H p N':=hgood (nob p) x (B3W N' p) hX hXf (hnobE x) hq
    rw [hL] at this
    cases this
  rw [hF,Oz]
  obtain ⟨r,hr,hq⟩:=L6 (f:=A0k p [] 9) (λs=>∃ k:Nat,s=((k:Int),some H.F4,x)∧k≤p.A7.length) (λs=>p.A7.length - s.1.toNat) (λr=>r=.inl (some H.F4,x)) (λs hs'=>by
   obtain ⟨k,rfl,hk⟩:=hs'
   simp only [A0k]
   by_cases hlt:k<p.A7.length
   ·left
    have hnil:A1j (Z7 H.F4 p) p N' k N'=[]:=List.eq_nil_iff_forall_not_mem.2 λv hv'=>by
     obtain ⟨y,hy,_⟩:=(hpl k hlt v).1 hv'
     cases hy
    rw [Dt (by omega:(k:Int)<(p.A7.length:Int)),Cy]
    unfold A3N
    rw [C3l hs hb hH hlt,hnil,Oz,H6 (by omega)]
    exact ⟨_,rfl,⟨k+1,rfl,by omega⟩,by dsimp only; omega⟩
   ·right
    rw [Df (by omega:¬ (k:Int)<(p.A7.length:Int))]
    exact ⟨_,rfl,rfl⟩) FUEL ((0:Int),some H.F4,x) ⟨0,rfl,by omega⟩ (fuel' (by dsimp only; omega))
  simp only
  rw [hr,hq,Oz]
  show Option.bind (A6o H.F4 x) (λt239=>bif !t239 then Option.bind A6g λt248=>some t248 else some false)=some true
  rw [hR,hd,ha]
  rfl
 | cons x0 l=>
  rw [hL] at hF
  have hF:A3K p=some (l.foldl A4N x0,0):=hF
  have hmc:∀ y∈x0::l,y∈A9B H p N':=λy hy=>by rw [hL]; exact hy
  rw [hF,Oz]
  have hx0:=(hmem x0 (hmc x0 (List.mem_cons_self ..))).1.len
  have hflen:∀ g,g<p.A7.length→∃ a:Int,x0[g]?=some a∧(l.foldl A4N x0).length=p.A7.length∧(((∀ y∈l,y[g]?=some a)∧(l.foldl A4N x0)[g]?=some a)∨((∃ y∈l,y[g]?≠some a)∧(l.foldl A4N x0)[g]?=some (-1))):=λg hg=>by
   have e:=Lg (show g<x0.length by omega)
   obtain ⟨q1,q2⟩:=fold_at (G:=p.A7.length) (g:=g) l x0 _ hx0 (λy hy=>(hmem y (hmc y (Mc _ hy))).1.len) (λy hy b hb'=>(hmem y (hmc y (Mc _ hy))).2.2 b (A0C hb')) hg e
   exact ⟨_,e,q1,q2⟩
  obtain ⟨r,hr,hq⟩:=L6 (f:=A0k p (l.foldl A4N x0) 0) (λs=>∃ k:Nat,s=((k:Int),some H.F4,x)∧k≤p.A7.length) (λs=>p.A7.length - s.1.toNat) (λr=>r=.inl (some H.F4,x)) (λs hs'=>by
   obtain ⟨k,rfl,hk⟩:=hs'
   simp only [A0k]
   by_cases hlt:k<p.A7.length
   ·left
    have hplk:=hpl k hlt
    have hsrt:=C5o (Z7 H.F4 p) p N' k
    have hlen:=B8S (Z7 H.F4 p) p N' k N'
    have hmm:∀ v∈A1j (Z7 H.F4 p) p N' k N',∃ s:Nat,s<N'∧v=(s:Int):=λv hv'=>by
     obtain ⟨s,h1,h2,_⟩:=C1n.1 hv'
     exact ⟨s,h1,h2⟩
    obtain ⟨a,ea,hfl,hfa⟩:=hflen k hlt
    have ham:=(hplk a).2 ⟨x0,hmc x0 (List.mem_cons_self ..),ea⟩
    have hxk:=Lg (show k<x.length by rw [hX.len]; exact hlt)
    have hl1:=D3U hv hs.n (g:=k) hxk (by omega) hsrt hmm
    have hin:Z7 H.F4 p x=false→x[k]'(by rw [hX.len]; exact hlt)∈A1j (Z7 H.F4 p) p N' k N':=λhd=>(hplk _).2 ⟨x,hgood (nob p) x (B3W N' p) hX hXf (hnobE x) hd,hxk⟩
    have hP:=C3l hs hb hH hlt
    generalize A1j (Z7 H.F4 p) p N' k N'=pl at hplk hsrt hlen hmm ham hl1 hin hP
    have hne:pl.length≠0:=λe=>by rw [List.eq_nil_of_length_eq_zero e] at ham; cases ham
    have hp0:A1U (l.foldl A4N x0) (k:Int) pl=some false:=by
     rcases hfa with ⟨q1,q2⟩ | ⟨⟨y,hy,q1⟩,q2⟩
     ·have hall:∀ v∈pl,v=a:=λv hv'=>by
       obtain ⟨y,hy,hyv⟩:=(hplk v).1 hv'
       rw [hL] at hy
       rcases List.mem_cons.1 hy with rfl | hy
       ·rw [ea] at hyv; exact (Option.some.inj hyv).symm
       ·rw [q1 y hy] at hyv; exact (Option.some.inj hyv).symm
      refine D1Q q2 (λv e=>by rw [e] at ham; exact Ms.1 ham) (λh2=>?_)
      exfalso
      have h3:=List.pairwise_iff_getElem.1 hsrt 0 1 (by omega) h2 (by omega)
      have h4:=hall _ (Gm (show 0<pl.length by omega))
      have h5:=hall _ (Gm h2)
      omega
     ·have hyk:=Lg (show k<y.length by rw [(hmem y (hmc y (Mc _ hy))).1.len]; exact hlt)
      have hbm:=(hplk _).2 ⟨y,hmc y (Mc _ hy),hyk⟩
      refine D1Q q2 (λv e=>?_) (λ_=>rfl)
      exfalso
      rw [e] at ham hbm
      have h1:=Ms.1 ham
      have h2:=Ms.1 hbm
      exact q1 (by rw [hyk,h2,h1])
    rw [Dt (by omega:(k:Int)<(p.A7.length:Int)),Cy]
    unfold A3N
    rw [hP,Oz]
    simp only [Dt rfl]
    rw [show decide True=true from rfl,Bq,Cn,Oz,Df (by omega:¬ (pl.length:Int)=0),show (!((decide ((0:Int)=9)) == false))=false from rfl,Cn,Cn,hfl,Dt rfl,Bq,Cn,hp0,Oz,Cn]
    unfold A7o
    rw [hl1,Oz]
    simp only [Oz]
    rw [hR,Oz,H6 (by omega)]
    cases hd:Z7 H.F4 p x with
    | true=>exact ⟨_,rfl,⟨k+1,rfl,by omega⟩,by dsimp only; omega⟩
    | false=>
     have:(pl.any λv=>decide (v=x[k]'(by rw [hX.len]; exact hlt)))=true:=Ay.2 ⟨_,hin hd,by simp⟩
     rw [this]
     exact ⟨_,rfl,⟨k+1,rfl,by omega⟩,by dsimp only; omega⟩
   ·right
    rw [Df (by omega:¬ (k:Int)<(p.A7.length:Int))]
    exact ⟨_,rfl,rfl⟩) FUEL ((0:Int),some H.F4,x) ⟨0,rfl,by omega⟩ (fuel' (by dsimp only; omega))
  simp only
  rw [hr,hq,Oz,ha]
  rfl
end Go.Pl
