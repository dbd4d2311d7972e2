import Derived.Test.YthchjfilgaondaaGreatDa
import Derived.Test.YthchjfilgaondaaGreatEb
/- Plain laws. -/
set_option maxRecDepth 1000000
set_option maxHeartbeats 40000000
set_option linter.unusedVariables false
set_option linter.unusedSimpArgs false
set_option linter.unusedSectionVars false
set_option linter.unnecessarySimpa false
namespace Go.Pl
open Go Go.Sl Go.Dm
theorem C6R {N G:Nat} {j:Q5} {x:List Int} (hP:Z0 N G x) (hfull:∀ y∈x,y≠-1) {g:Nat} (hg:g<x.length):0≤pt (mkv j x) (g:Int):=by
 have e:pt (mkv j x) (g:Int)=x[g]:=by
  show x.getD (g:Int).toNat (-1)=x[g]
  rw [Zt,List.getD_eq_getElem?_getD,Lg hg]
  rfl
 have h1:=hP.bd _ (Gm hg)
 have h2:=hfull _ (Gm hg)
 rw [e]
 omega
theorem B6m {N G:Nat} {j:Q5} {x:List Int} (hP:Z0 N G x) (hfull:∀ y∈x,y≠-1) {r:F4} (h0:0≤Y3 (mkv j x) r):A2u (mkv j x) r=Y3 (mkv j x) r:=by
 have hl:A8S (mkv j x)=0:=by
  unfold A8S
  rw [List.countP_eq_zero]
  intro g hg
  have:=C6R (j:=j) hP hfull (g:=g) (Mr.1 hg)
  simp
  exact this
 have hh:B3v (mkv j x)=0:=by
  unfold B3v
  rw [List.countP_eq_zero]
  intro g hg
  have:=C6R (j:=j) hP hfull (g:=g) (Mr.1 hg)
  simp
  intro h
  omega
 unfold A2u
 rw [hl,hh]
 simp
 split
 ·exact Int.max_eq_left h0
 ·split
  ·exact Int.max_eq_left h0
  ·rfl
section
variable {p:C9} {N:Nat} (hv:Vld p) {j:Q5} (hj:JOk j p N)
include hv hj
theorem C4F {x:List Int} (hP:Z0 N p.A8.length x) (hfull:∀ y∈x,y≠-1):A4w j x=some (!A1Z j p x):=by
 have hvw:=C4c hv hj hP
 have hG:=hv.B1u
 have hlen:=hP.len
 have hr:=hv.D2x
 have hno:(x.any λy=>decide ((-1:Int)=y))=false:=by
  rw [List.any_eq_false]
  intro y hy h
  exact hfull y hy (of_decide_eq_true h).symm
 have key:=A1r (f:=A4h (mkv j x)) p.K5 (λi r=>if !(decide (r.K8=0) && decide (0<Y3 (mkv j x) r)) then none else some (.inr false)) (.inl ():Unit⊕Bool) (n:=FUEL) (fuel' (by omega)) (λi r hi=>by
  have hlt:=P7 hi
  simp only [A4h]
  rw [show (mkv j x).F7.P9=p from hj.given,Dt (by omega:(i:Int)<(p.K5.length:Int)),Cy,J4 hi,Oz,H6 (by omega),hvw.faults hi]
  cases hw:decide (r.K8=0) with
  | false=>rfl
  | true=>
   simp only [Cy,Oz]
   cases hq:decide (0<Y3 (mkv j x) r) with
   | false=>rfl
   | true=>rfl) (by simp [A4h,mkv,hj.given])
 rw [A7I (ρ:=Unit⊕Bool) (λi r=>if !(decide (r.K8=0) && decide (0<Y3 (mkv j x) r)) then none else some (.inr false)) (λr=>!(decide (r.K8=0) && decide (0<Y3 (mkv j x) r))) (.inr false) (.inl ()) (λi r=>rfl)] at key
 have hd:A1Z j p x=!(p.K5.all λr=>!(decide (r.K8=0) && decide (0<Y3 (mkv j x) r))):=by
  unfold A1Z C5Q
  have e:(p.K5.any λr=>decide (r.K8=0) && decide (0<A2u (mkv j x) r))=p.K5.any λr=>decide (r.K8=0) && decide (0<Y3 (mkv j x) r):=by
   rw [Bool.eq_iff_iff,Ay,Ay]
   constructor
   ·rintro ⟨r,hr,h⟩
    exact ⟨r,hr,by rw [←B6m hP hfull (hvw.fbd (hv.rf hr)).1]; exact h⟩
   ·rintro ⟨r,hr,h⟩
    exact ⟨r,hr,by rw [B6m hP hfull (hvw.fbd (hv.rf hr)).1]; exact h⟩
  rw [e,List.all_eq_not_any_not]
  simp
 unfold A4w
 rw [look_ok hv hj hP,Oz]
 simp only [Option.isNone_some,Cn]
 rw [B7X (by rw [mx]; omega),hno]
 simp only [Oz,Cn]
 rw [key,hd]
 cases p.K5.all λr=>!(decide (r.K8=0) && decide (0<Y3 (mkv j x) r)) <;> rfl
theorem C7Q {part x:List Int} (hP:Z0 N p.A8.length part) (hX:Z0 N p.A8.length x) (hfull:∀ y∈x,y≠-1) (he:Exn part x) (hd:A1Z j p x=false):A1Z j p part=false:=by
 have hv1:=C4c hv hj hP
 have hv2:=C4c hv hj hX
 cases hq:A1Z j p part with
 | false=>rfl
 | true=>
  exfalso
  unfold A1Z C5Q at hq hd
  obtain ⟨r,hr,h⟩:=Ay.1 hq
  have h2:=List.any_eq_false.1 hd r hr
  simp only [Ba,Dq] at h h2
  have hrf:=hv.rf hr
  have hE:Ext p.A8.length (mkv j part) (mkv j x):=⟨rfl,λg g0 g1 hg=>by
   obtain ⟨n,rfl⟩:=Zn g0
   have hn:n<part.length:=by have:=hP.len; omega
   have e1:pt (mkv j part) (n:Int)=part[n]:=by
    show part.getD (n:Int).toNat (-1)=_
    rw [Zt,List.getD_eq_getElem?_getD,Lg hn]; rfl
   have h3:=he n part[n] (Lg hn) (by omega)
   rw [e1]
   show x.getD (n:Int).toNat (-1)=_
   rw [Zt,List.getD_eq_getElem?_getD,h3]; rfl⟩
  have h4:=Ext.mono hv1 hv2 hE hrf
  rw [←B6m hX hfull (hv2.fbd hrf).1] at h4
  exact h2 ⟨h.1,by omega⟩
end
def hdS (l:List (List Int)):(List Int⊕List Int)×Bool:=match l with | []=>(.inl [],true) | x::_=>(.inr x,false)
theorem C6W {Y:(List Int⊕List Int)→List Int→Option ((List Int⊕List Int)×Bool)} (l:List (List Int)) (hY:∀ x∈l,Y (.inl []) x=some (.inr x,false)) :
  scan Y (.inl []) l=some (hdS l):=by
 cases l with
 | nil=>rfl
 | cons x l=>simp only [scan,hY x (List.mem_cons_self ..),Oz]; rfl
def hd9 (l:List (List Int)):List Int×Int:=match l with | []=>([],9) | x::_=>(x,0)
theorem D0y {p:C9} {N:Nat} (h:C8t p N) {H:M7} (e:A3f p=some (some H,0,0)) (hH:HOk H p N):A1b p=some (some H,0):=by
 obtain ⟨w,hw,hw2⟩:=C7A (by have:=h.n24; omega) h.le h.w
 unfold A1b
 rw [e,Oz]
 simp only [Dt rfl]
 rw [show decide True=true from rfl]
 simp only [Bq,Cn,Oz]
 rw [hH.tl,hw,Oz,Df (by omega)]
 rfl
theorem D0d {p:C9} {N:Nat} (h:C8t p N) {H:M7} (hb:A1b p=some (some H,0)) (hH:HOk H p N):A9n p=some (hd9 (C0r H p N)):=by
 have hs:=C6W (Y:=A5Q) (C0r H p N) (λx hx=>by
  obtain ⟨hP,_⟩:=A6e N p.A8.length A2Y (nob p) x (C0d N p) hx
  have hcl:A0D x=some x:=C1r (by rw [hP.len]; have:=h.g12; omega)
  simp only [A5Q,hcl,Oz])
 unfold A9n
 rw [hb,Oz]
 simp only [Dt rfl]
 rw [show decide True=true from rfl]
 simp only [Bq,Cn,Oz]
 rw [C7O h.fit.v hH,Oz]
 simp only [A3p,Oz]
 rw [C1d h.fit.v hH _ (C0d N p),hs]
 unfold C0r
 cases Z9 (A1Z H.F7 p) N A2Y (nob p) <;> rfl
theorem C4W {N:Nat} (hN:1≤N):∀ {g:Nat},g+1≤N→Wk (N - 1) g≤Wk N (g+1)
 | 0,_=>by simp [Wk]; omega
 | g+1,h=>by
  have ih:=C4W hN (g:=g) (by omega)
  show Wk (N - 1) g*(((N - 1:Nat):Int) - (g:Int))≤Wk N (g+1)*((N:Int) - ((g+1:Nat):Int))
  rw [show (((N - 1:Nat):Int) - (g:Int))=(N:Int) - ((g+1:Nat):Int) by omega]
  exact Int.mul_le_mul_of_nonneg_right ih (by omega)
theorem C6S {N G:Nat} (hG:G≤N):∀ {k:Nat},k≤G→Wk (N - k) (G - k)≤Wk N G
 | 0,_=>Int.le_refl _
 | k+1,h=>by
  have ih:=C6S hG (k:=k) (by omega)
  have:=C4W (N:=N - k) (by omega) (g:=G - (k+1)) (by omega)
  rw [show N - k - 1=N - (k+1) by omega,show G - (k+1)+1=G - k by omega] at this
  omega
theorem C3p {p:C9} {N:Nat} (h:C8t p N) {H:M7} (ho:A3f p=some (some H,0,0)) (hH:HOk H p N) {part:List Int} (hP:Z0 N p.A8.length part):A1c p part=some (hd9 (Z9 (A1Z H.F7 p) N A2Y part)):=by
 have hlen:=hP.len
 have h12:=h.g12
 have h24:=h.n24
 have hle:=h.le
 have hs:=C6W (Y:=A4M) (Z9 (A1Z H.F7 p) N A2Y part) (λx hx=>by
  obtain ⟨hX,_⟩:=A6e N p.A8.length A2Y part x hP hx
  have hcl:A0D x=some x:=C1r (by rw [hX.len]; omega)
  simp only [A4M,hcl,Oz])
 have hcnt:nn part≤part.length:=List.countP_le_length
 have hl:iter (A2K part) FUEL ((0:Int),(0:Int))=some ((nn part:Nat):Int):=by
  obtain ⟨r,hr,hq⟩:=L8 (f:=A2K part) (λs=>∃ k:Nat,s.2=(k:Int)∧k≤part.length∧s.1=((nn (part.take k):Nat):Int)) (λs=>part.length - s.2.toNat) (λr=>r=((nn part:Nat):Int)) (λs hs=>by
   obtain ⟨c,g⟩:=s
   obtain ⟨k,hk,hkn,hc⟩:=hs
   simp only at hk hc
   subst hk hc
   have hb:nn (part.take k)≤k:=Nat.le_trans List.countP_le_length (by rw [List.length_take]; omega)
   simp only [A2K,Cd]
   by_cases hlt:k<part.length
   ·left
    have hx:=Lg hlt
    generalize part[k]=e at hx
    have hnx:=C1a (λx:Int=>decide (0≤x)) hx
    rw [if_pos (by omega)]
    simp only [J4 hx,Oz,H6 (show k<9223372036854775807 by omega),H6 (show nn (part.take k)<9223372036854775807 by omega)]
    by_cases he:0≤e
    ·rw [if_pos he]
     refine ⟨_,rfl,⟨k+1,rfl,by omega,?_⟩,by dsimp only; omega⟩
     unfold nn; rw [hnx]; simp [he]
    ·rw [if_neg he]
     refine ⟨_,rfl,⟨k+1,rfl,by omega,?_⟩,by dsimp only; omega⟩
     unfold nn; rw [hnx]; simp [he]
   ·right
    rw [if_neg (by omega)]
    have:k=part.length:=by omega
    subst this
    exact ⟨_,rfl,by rw [List.take_length]⟩) FUEL ((0:Int),(0:Int)) ⟨0,rfl,by omega,rfl⟩ (fuel' (by dsimp only; omega))
  rw [hr,hq]
 obtain ⟨w,hw,hw2⟩:=C7A (N:=N - nn part) (by omega) (G:=p.A8.length - nn part) (by omega) (Int.le_trans (C6S hle (by omega)) h.w)
 have hw':A4i ((N:Int) - (nn part:Int)) ((p.A8.length:Int) - (nn part:Int))=some w:=by
  rw [←hw,show ((N - nn part:Nat):Int)=(N:Int) - (nn part:Int) by omega,show ((p.A8.length - nn part:Nat):Int)=(p.A8.length:Int) - (nn part:Int) by omega]
 unfold A1c
 rw [ho,Oz]
 simp only [Dt rfl]
 rw [show decide True=true from rfl]
 simp only [Bq,Cn]
 rw [C3N h.fit.v h.n hP,Oz]
 simp only [Dt rfl]
 rw [show decide True=true from rfl]
 simp only [Bq,Cn]
 rw [hl,Oz]
 unfold B2f
 rw [Oz,hH.tl,hlen,A1U (by omega) (by omega),Oz,A1U (by omega) (by omega),Oz,hw',Oz,Df (by omega),Cn]
 simp only [A3p,Oz]
 rw [C1d h.fit.v hH _ hP,hs]
 cases Z9 (A1Z H.F7 p) N A2Y part <;> rfl
def NB (x y:List Int):Prop:=∀ (i:Nat) (a b:Int),(∀ j,j<i→x[j]?=y[j]?)→x[i]?=some a→y[i]?=some b→b≤a
theorem C7x {F:Nat→List (List Int)} {y x:List Int} {l:List (List Int)}:∀ (ss:List Nat),ss.Pairwise (·<·)→ss.flatMap F=y::l→x∈ss.flatMap F→∃ s0 s,s0≤s∧s0∈ss∧s∈ss∧(∃ l',F s0=y::l')∧x∈F s
 | [],_,h,_=>by simp at h
 | s::ss,hp,h,hx=>by
  rw [List.pairwise_cons] at hp
  rw [List.flatMap_cons] at h hx
  cases e:F s with
  | nil=>
   rw [e,List.nil_append] at h hx
   obtain ⟨s0,s1,h1,h2,h5,h3,h4⟩:=C7x ss hp.2 h hx
   exact ⟨s0,s1,h1,Mc _ h2,Mc _ h5,h3,h4⟩
  | cons z l'=>
   rw [e,List.cons_append] at h
   cases h
   rcases List.mem_append.1 hx with hm | hm
   ·exact ⟨s,s,Nat.le_refl _,List.mem_cons_self ..,List.mem_cons_self ..,⟨l',e⟩,hm⟩
   ·obtain ⟨s1,h1,h2⟩:=List.mem_flatMap.1 hm
    exact ⟨s,s1,Nat.le_of_lt (hp.1 s1 h1),List.mem_cons_self ..,Mc _ h1,⟨l',e⟩,h2⟩
theorem B6U {d:List Int→Bool} (N G:Nat):∀ (n:Nat) (part x y:List Int) (l:List (List Int)),Z0 N G part→Z9 d N n part=y::l→x∈Z9 d N n part→NB x y
 | 0,_,_,_,_,_,h,_=>by simp [Z9] at h
 | n+1,part,x,y,l,hP,h,hx=>by
  unfold Z9 at h hx
  by_cases hd:d part=true
  ·rw [if_pos hd] at h; cases h
  ·rw [if_neg hd] at h hx
   by_cases hf:free part<0
   ·rw [if_pos hf] at h hx
    cases h
    rw [Ms] at hx
    subst hx
    intro i a b _ h1 h2
    rw [h1] at h2
    cases h2
    exact Int.le_refl _
   ·rw [if_neg hf] at h hx
    have hf':0≤free part:=by omega
    obtain ⟨k1,k2,k3⟩:=free_at hf'
    obtain ⟨s0,s,hle,hs0,hsm,⟨l',h0⟩,hxs⟩:=C7x (List.range N) List.pairwise_lt_range h hx
    have hs0N:=Mr.1 hs0
    have br:∀ s:Nat,∀ z,z∈(if part.any (λy=>decide ((s:Int)=y)) then [] else Z9 d N n (part.set (free part).toNat (s:Int)))→(part.any λy=>decide ((s:Int)=y))=false∧z∈Z9 d N n (part.set (free part).toNat (s:Int)):=λs z hz=>by
     cases hq:part.any λy=>decide ((s:Int)=y) with
     | true=>rw [hq] at hz; simp at hz
     | false=>rw [hq] at hz; exact ⟨rfl,by simpa using hz⟩
    have hy0:y∈(if part.any (λy=>decide ((s0:Int)=y)) then [] else Z9 d N n (part.set (free part).toNat (s0:Int))):=by rw [h0]; exact List.mem_cons_self ..
    obtain ⟨a0,hy⟩:=br s0 y hy0
    obtain ⟨a1,hxm⟩:=br s x hxs
    have hP0:=hP.set hf' hs0N a0
    have hsN:=Mr.1 hsm
    have hP1:=hP.set hf' hsN a1
    obtain ⟨_,_,_,ey⟩:=A6e N G n _ y hP0 hy
    obtain ⟨_,_,_,ex⟩:=A6e N G n _ x hP1 hxm
    intro i a b hag ha hb
    rcases Nat.lt_trichotomy i (free part).toNat with hi | hi | hi
    ·have hip:i<part.length:=by omega
     have e:=Lg hip
     have hne:part[i]≠-1:=λq=>k3 i hi (by rw [e,q])
     have hgs:∀ t:Int,(part.set (free part).toNat t)[i]?=some part[i]:=λt=>by rw [List.getElem?_set_ne (by omega)]; exact e
     have q1:=ex i _ (hgs s) hne
     have q2:=ey i _ (hgs s0) hne
     rw [ha] at q1; rw [hb] at q2
     cases q1; cases q2
     exact Int.le_refl _
    ·subst hi
     have q1:=ex _ (s:Int) (List.getElem?_set_self k1) (by omega)
     have q2:=ey _ (s0:Int) (List.getElem?_set_self k1) (by omega)
     rw [ha] at q1; rw [hb] at q2
     cases q1; cases q2
     omega
    ·have q1:=ex _ (s:Int) (List.getElem?_set_self k1) (by omega)
     have q2:=ey _ (s0:Int) (List.getElem?_set_self k1) (by omega)
     have:=hag _ hi
     rw [q1,q2] at this
     have hss:s=s0:=by have:=Option.some.inj this; omega
     subst hss
     rw [a0] at h0
     simp only [Bool.false_eq_true,if_false] at h0
     exact B6U N G n _ x y l' hP0 h0 hxm i a b hag ha hb
theorem C8F {x y:List Int} (hl:x.length=y.length) (hx:x.length≤1000) (h:NB x y):A9z x y=some false:=by
 obtain ⟨r,hr,hq⟩:=L8 (f:=A5J x y) (λk=>∃ i:Nat,k=(i:Int)∧i≤x.length∧∀ j,j<i→x[j]?=y[j]?) (λk=>x.length - k.toNat) (λr=>r=.inl ()∨r=.inr false) (λk hk=>by
  obtain ⟨i,rfl,hi,hall⟩:=hk
  simp only [A5J,Cd]
  by_cases hlt:i<x.length
  ·have hly:i<y.length:=by omega
   have e1:=Lg hlt
   have e2:=Lg hly
   rw [if_pos (by omega),Oz,Dt (by omega),Cy,J4 e1,J4 e2,H6 (by omega)]
   simp only [Oz]
   have hnb:=h i _ _ hall e1 e2
   by_cases he:x[i]=y[i]
   ·left
    rw [Dt he]
    refine ⟨_,rfl,⟨i+1,rfl,by omega,λj hj=>?_⟩,by omega⟩
    by_cases hji:j=i
    ·subst hji; rw [e1,e2,he]
    ·exact hall j (by omega)
   ·right
    rw [Df he,Df (by omega:¬ x[i]<y[i])]
    exact ⟨_,rfl,.inr rfl⟩
  ·right
   rw [if_neg (by omega)]
   exact ⟨_,rfl,.inl rfl⟩) FUEL 0 ⟨0,rfl,by omega,λj hj=>by omega⟩ (fuel' (by simp; omega))
 unfold A9z
 rw [hr]
 rcases hq with rfl | rfl <;> rfl
end Go.Pl
namespace Go.Pl
open Go Go.Sl Go.Dm
theorem D0O {x:List Int} (hx:x.length≤1000):A3j x x=some true:=by
 obtain ⟨r,hr,hq⟩:=L8 (f:=A5M x x) (λk=>∃ i:Nat,k=(i:Int)∧i≤x.length) (λk=>x.length - k.toNat) (λr=>r=.inl ()) (λk hk=>by
  obtain ⟨i,rfl,hi⟩:=hk
  simp only [A5M]
  by_cases hlt:i<x.length
  ·left
   rw [Dt (by omega:(i:Int)<(x.length:Int)),Cy,J4 (Lg hlt),H6 (by omega)]
   simp only [Oz]
   exact ⟨_,rfl,⟨i+1,rfl,by omega⟩,by omega⟩
  ·right
   rw [Df (by omega:¬ (i:Int)<(x.length:Int))]
   exact ⟨_,rfl,rfl⟩) FUEL 0 ⟨0,rfl,by omega⟩ (fuel' (by simp; omega))
 unfold A3j
 rw [Dt rfl,Bq,Cn,hr,hq]
 rfl
theorem D0W {p:C9} (h:p.A8.length≤64):A6I p=some (nob p):=by
 obtain ⟨r,hr,hq⟩:=L8 (f:=A5R p) (λs=>∃ i:Nat,s=(List.replicate i (-1),(i:Int))∧i≤p.A8.length) (λs=>p.A8.length - s.2.toNat) (λr=>r=nob p) (λk hk=>by
  obtain ⟨i,rfl,hi⟩:=hk
  simp only [A5R]
  by_cases hlt:i<p.A8.length
  ·left
   rw [Dt (by omega:(i:Int)<(p.A8.length:Int)),Cy,V5 (by simp; omega),Oz,H6 (by omega)]
   refine ⟨_,rfl,⟨i+1,?_,by omega⟩,by dsimp only; omega⟩
   rw [List.replicate_succ']
  ·right
   rw [Df (by omega:¬ (i:Int)<(p.A8.length:Int))]
   have:i=p.A8.length:=by omega
   subst this
   exact ⟨_,rfl,rfl⟩) FUEL (([]:List Int),(0:Int)) ⟨0,rfl,by omega⟩ (fuel' (by dsimp only; omega))
 unfold A6I
 rw [hr,hq]
 rfl
theorem D1j {part y:List Int} (hl:part.length≤1000) (he:Exn part y) (hb:∀ x∈part,-1≤x):iter (A0I part y) FUEL (0:Int)=some (.inl ()):=by
 obtain ⟨r,hr,hq⟩:=L8 (f:=A0I part y) (λk=>∃ i:Nat,k=(i:Int)∧i≤part.length) (λk=>part.length - k.toNat) (λr=>r=.inl ()) (λk hk=>by
  obtain ⟨i,rfl,hi⟩:=hk
  simp only [A0I]
  by_cases hlt:i<part.length
  ·left
   have e1:=Lg hlt
   rw [Dt (by omega:(i:Int)<(part.length:Int)),Cy,J4 e1,H6 (by omega)]
   simp only [Oz]
   by_cases h0:0≤part[i]
   ·rw [Dt h0,Cy,J4 (he i _ e1 (by omega)),Oz,Dt rfl]
    exact ⟨_,rfl,⟨i+1,rfl,by omega⟩,by omega⟩
   ·rw [Df h0,Cn]
    exact ⟨_,rfl,⟨i+1,rfl,by omega⟩,by omega⟩
  ·right
   rw [Df (by omega:¬ (i:Int)<(part.length:Int))]
   exact ⟨_,rfl,rfl⟩) FUEL 0 ⟨0,rfl,by omega⟩ (fuel' (by simp; omega))
 rw [hr,hq]
theorem C4a (ha:A4d=some true) {m:T9} (h:B7q m) {seats more:List Int} (hse:seats.length≤maxLen):A4X m seats more=some true:=by
 obtain ⟨p,N,hS,hp⟩:=C9J h
 have hs:C8t p N:=⟨hp.fit,hp.n,hp.gs.len,hp.le,by have:=hp.w; omega⟩
 obtain ⟨H,N',ho,hH,hNew⟩:=C9h hs.fit
 have:N'=N:=by have:=hH.j.n; have:=hs.n; omega
 subst this
 have hb:=D0y hs ho hH
 have h12:=hs.g12
 have hv:=hs.fit.v
 obtain ⟨part,e1,hP⟩:=C8i hs.fit.t (by omega) hs.n hs.le seats hse
 obtain ⟨x,e2,hX,hXf,hXe⟩:=D1c hs.fit.t (by omega) hs.n hs.le hP more
 have hE:=C3p hs ho hH hP
 have hR:=C4F hv hH.j hX hXf
 have hgood:∀ q y:List Int,Z0 N' p.A8.length q→Z0 N' p.A8.length y→(∀ z∈y,z≠-1)→Exn q y→A1Z H.F7 p y=false→y∈Z9 (A1Z H.F7 p) N' A2Y q:=λq y hq hy hyf hqe hd=>
  C1A N' p.A8.length y hy hyf hd A2Y q hq (Nat.lt_of_le_of_lt List.countP_le_length (by rw [hq.len]; exact Nat.lt_of_le_of_lt h12 (by decide))) hqe (λq' hq' he'=>C7Q hv hH.j hq' hy hyf he' hd)
 unfold A4X
 rw [hS,Oz,hNew,Oz]
 simp only [Option.isNone_some,Cn,Dt rfl]
 rw [show decide True=true from rfl,Bq,Oz,Cn]
 unfold A6U
 rw [e1,Oz,e2,Oz]
 cases hL:Z9 (A1Z H.F7 p) N' A2Y part with
 | nil=>
  have hd:A1Z H.F7 p x=true:=by
   cases hq:A1Z H.F7 p x with
   | true=>rfl
   | false=>
    have:=hgood part x hP hX hXf hXe hq
    rw [hL] at this
    cases this
  rw [hL] at hE
  have hE:A1c p part=some ([],9):=hE
  rw [hE,Oz]
  show Option.bind (Option.bind (A4w H.F7 x) λt109=>bif !t109 then Option.bind A4d λt118=>some t118 else some false) (λt101=>some t101)=some true
  rw [hR,hd,ha]
  rfl
 | cons y l=>
  have hym:y∈Z9 (A1Z H.F7 p) N' A2Y part:=by rw [hL]; exact List.mem_cons_self ..
  obtain ⟨hY,hyd,hyf,hye⟩:=A6e N' p.A8.length A2Y part y hP hym
  have hF:=D0d hs hb hH
  have hN:=C3p hs ho hH (C0d N' p)
  have hny:y∈Z9 (A1Z H.F7 p) N' A2Y (nob p):=hgood (nob p) y (C0d N' p) hY hyf (λg s hg hsn=>absurd (List.eq_of_mem_replicate (A0M hg)) hsn) hyd
  rw [hL] at hE
  have hE:A1c p part=some (y,0):=hE
  rw [hE,Oz]
  show A3k p (some H.F7) part x y 0=some true
  unfold A3k
  rw [Dt rfl,Bq,Cn,Oz,C4F hv hH.j hY hyf,Oz,hyd]
  simp only [Bp,Bq,Cn,Oz]
  rw [hY.len,hP.len,Dt rfl,Bq,Cn,D1j (by rw [hP.len]; omega) hye (λz hz=>(hP.bd z hz).1),Oz]
  simp only
  unfold A7f
  rw [hF,Oz]
  cases hL0:Z9 (A1Z H.F7 p) N' A2Y (nob p) with
  | nil=>rw [hL0] at hny; cases hny
  | cons u l'=>
   obtain ⟨hU,_⟩:=A6e N' p.A8.length A2Y (nob p) u (C0d N' p) (by rw [hL0]; exact List.mem_cons_self ..)
   have hF':hd9 (C0r H p N')=(u,0):=by unfold C0r; rw [hL0]; rfl
   rw [hL0] at hN
   have hN:A1c p (nob p)=some (u,0):=hN
   rw [hF']
   show (Option.bind (A6I p) λt188=>_)=_
   rw [D0W (by omega),Oz,hN,Oz]
   simp only
   rw [A1U (by omega) (by omega),Oz,Dt (by omega),Cy,D0O (by rw [hU.len]; omega),Oz,Cy,Oz,hR,Oz]
   cases hq:A1Z H.F7 p x with
   | true=>rw [ha]; rfl
   | false=>
    have hxm:=hgood part x hP hX hXf hXe hq
    have hnb:=B6U N' p.A8.length A2Y part x y l hP hL hxm
    rw [C8F (by rw [hX.len,hY.len]) (by rw [hX.len]; omega) hnb,ha]
    rfl
end Go.Pl
