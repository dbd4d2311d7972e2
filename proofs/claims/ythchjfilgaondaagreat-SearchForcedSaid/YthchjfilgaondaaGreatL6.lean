import Derived.Test.YthchjfilgaondaaGreatL5
import Derived.Laws.Cover3
/- Rules. -/
set_option maxRecDepth 1000000
set_option maxHeartbeats 40000000
set_option linter.unusedVariables false
set_option linter.unusedSimpArgs false
set_option linter.unusedSectionVars false
set_option linter.unnecessarySimpa false
namespace Go.Sl
open Go
def B4V:Value→Bool
 | .slice none _ _=>true
 | _=>false
theorem G9.B4V {α:Type} {E:Vr α} {sz:Nat} {h:PH} {v:Value} {xs:List α} (s:G9 E sz h v xs) (hb:Sl.B4V v=true):xs=[]:=by
 obtain ⟨a,c,rfl,_,hne⟩:=s.shape
 rcases xs with _ | ⟨x,xs⟩
 ·rfl
 ·obtain ⟨b,o,rfl⟩:=hne (by simp)
  cases hb
theorem B1I {α:Type} {xs:List α} {r:List α} (hx:xs=[]) (H:(apL ([]:List α) xs).bind (λt=>some t)=some r):some ([]:List α)=some r:=by
 subst hx; simpa [apL,Nat.ble] using H
def B2u (v:Value) (lo hi sz:Nat):Value:=match v with
 | .slice a _ cap=>.slice (if cap=lo then a else a.map (·.add (lo*sz))) (hi - lo) (cap - lo)
 | v=>v
def B9A {α:Type} (xs:List α) (lo hi i:Int):Option α:=bif decide (0≤lo) && decide (0≤i) && decide (i<hi - lo) then G7 xs (lo+i) else none
theorem X4 {α:Type} {xs:List α} {lo hi i:Int} {x:α} (h:B9A xs lo hi i=some x):0≤lo∧0≤i∧i<hi - lo∧G7 xs (lo+i)=some x:=by
 unfold B9A at h
 cases hb:(decide (0≤lo) && decide (0≤i) && decide (i<hi - lo)) with
 | false=>simp [hb] at h
 | true=>
  rw [hb] at h
  simp only [Bool.and_eq_true,decide_eq_true_eq] at hb
  exact ⟨hb.1.1,hb.1.2,hb.2,h⟩
def bdV (lo hi n:Int):Option Unit:=bif decide (0≤lo) && decide (lo≤hi) && decide (hi≤n) then some () else none
theorem A4S {lo hi n:Int} {u:Unit} (h:bdV lo hi n=some u):0≤lo∧lo≤hi∧hi≤n:=by
 unfold bdV at h
 cases hb:(decide (0≤lo) && decide (lo≤hi) && decide (hi≤n)) with
 | false=>simp [hb] at h
 | true=>simp only [Bool.and_eq_true,decide_eq_true_eq] at hb; exact ⟨hb.1.1,hb.1.2,hb.2⟩
def A3u {α:Type} (xs:List α) (lo:Nat) (ys:List α):List α:=xs.take lo++ys++xs.drop (lo+ys.length)
theorem A8.put {α:Type} {E:Vr α} {h:PH} {css ds:List (List Value)} {xs ys:List α} {lo:Nat} (f:A8 E h css xs) (g:A8 E h ds ys) (hl:lo≤xs.length):A8 E h (A3u css lo ds) (A3u xs lo ys):=by
 have tk:A8 E h (css.take lo) (xs.take lo):=⟨by simp [f.len],λi x e=>by
  rw [List.getElem?_take] at e
  split at e
  ·rename_i hi; obtain ⟨c,hc,he⟩:=f.at_ i x e; exact ⟨c,by rw [List.getElem?_take,if_pos hi]; exact hc,he⟩
  ·cases e⟩
 have dr:A8 E h (css.drop (lo+ds.length)) (xs.drop (lo+ys.length)):=⟨by simp [f.len,g.len],λi x e=>by
  rw [List.getElem?_drop] at e
  obtain ⟨c,hc,he⟩:=f.at_ _ x e
  exact ⟨c,by rw [List.getElem?_drop,g.len]; exact hc,he⟩⟩
 exact (tk.append g).append dr
theorem A8.part {α:Type} {E:Vr α} {h:PH} {css:List (List Value)} {xs:List α} (f:A8 E h css xs) (lo n:Nat):A8 E h ((css.drop lo).take n) ((xs.drop lo).take n):=
 ⟨by simp [f.len],λi x e=>by
  rw [List.getElem?_take] at e
  split at e
  ·rename_i hi
   rw [List.getElem?_drop] at e
   obtain ⟨c,hc,he⟩:=f.at_ _ x e
   exact ⟨c,by rw [List.getElem?_take,if_pos hi,List.getElem?_drop]; exact hc,he⟩
  ·cases e⟩
theorem A8.take {α:Type} {E:Vr α} {h:PH} {css:List (List Value)} {xs:List α} (f:A8 E h css xs) (n:Nat):A8 E h (css.take n) (xs.take n):=by
 have:=f.part 0 n; simpa using this
theorem A1J.take {sz n:Nat} {css:List (List Value)} (w:A1J sz css):A1J sz (css.take n):=λc hc=>w c (List.mem_of_mem_take hc)
theorem A1J.drop {sz n:Nat} {css:List (List Value)} (w:A1J sz css):A1J sz (css.drop n):=λc hc=>w c (List.mem_of_mem_drop hc)
section
variable {ro:Option Nat} {P:Program} {n:Nat} {D:List Deferred} {ρ:Env} {h:PH} {L:List E5} {Q:Exit→Act→World→Prop} {K:Act→World→Prop} {X:World→Prop}
variable {d:Option Nat} {ty:TypeId} {pos:String} {af:Array Edge} {g:Option (Nat×Bool)}
theorem V.C2T {α:Type} {E:Vr α} {x:Operand} {t et sz by_ sz':Nat} {v:Value} {xs:List α} {u:TypeId} (ht:A0T P t=some (et,sz,by_)) (e:ev ρ x=some v) (hS:G9 E sz' h v xs) :
  Val P X ρ ⟨d,.binOp .eql t x (.const (.slice none 0 0)) u,ty,pos,af,g⟩ (.bool (B4V v)):=λa w _ hs=>by
 obtain ⟨p,c,rfl,_,_⟩:=hS.shape
 have hu:P.underlying t=some (.slice et):=by
  unfold A0T at ht
  cases hu:P.underlying t with
  | none=>simp [hu] at ht
  | some q=>cases q <;> simp [hu] at ht; rename_i e'; cases hi:P.info? e' <;> simp [hi] at ht; obtain ⟨rfl,_⟩:=ht; rfl
 have h2:a.eval (.const (.slice none 0 0))=.slice none 0 0:=rfl
 have hk:=run_equal_slice_nil (P:=P) w t et p xs.length c hu
 have hn:B4V (.slice p xs.length c)=p.isNone:=by cases p <;> rfl
 rw [hn]
 simp only [execOp,hs.ev e,h2,eqGuard,binOp]
 simp [hk]
theorem O.bs0 {dd:Nat} {t et sz by_:Nat} (ht:A0T P t=some (et,sz,by_)) (hd:Nat.blt dd n=true)
  (kk:∀ b,T n D ((dd,.slice (some ⟨b,0,none⟩) 0 0)::ρ) h (F3 et sz (.slice (some ⟨b,0,none⟩) 0 0) []::L) K) :
  T n D ρ h L (λa w=>Oper.wr ⟨some dd,.buildSlice t 0 #[],ty,pos,af,g⟩ ro P a w K Q):=λa w f i=>by
 obtain ⟨e1,e2,e3⟩:=A6O ht
 have:(execOp a.eval ⟨some dd,.buildSlice t 0 #[],ty,pos,af,g⟩).run P w=.ok (.value (.slice (some ⟨w.heap.size,0,none⟩) 0 0)) (w.alloc (.cells #[] et)):=by
  simp [execOp,Instr.buildSlice,Sem.run_bind,e1,e2,Instr.fill,newRow]
  have hr:Array.range 0=#[]:=by simp [Array.range]
  rw [hr]; simp
 have i2:=i.newRow (E:=et) (sz:=sz) (css:=[]) (k:=0) (λc hc=>by cases hc) rfl
 exact A0j this (kk _ _ _ (f.put hd) i2)
theorem V.slV {x:Operand} {lo hi:Option Operand} {t et sz by_ j:Nat} {v:Value} {css:List (List Value)} {l u:Int} (ht:A0T P t=some (et,sz,by_)) (e:ev ρ x=some v) (hj:L[j]?=some (F3 et sz v css))
  (hlo:lo=none∧l=0∨∃ o k,lo=some o∧ev ρ o=some (.int k l)) (hhi:hi=none∧u=css.length∨∃ o k,hi=some o∧ev ρ o=some (.int k u)) (hb:0≤l∧l≤u∧u≤css.length) :
  Val P (XI h L) ρ ⟨d,.slice t x lo hi none,ty,pos,af,g⟩ (B2u v l.toNat u.toNat sz):=λa w iv hs=>by
 obtain ⟨p,c,hv,hc⟩:=B1W (show Inv w h L from iv) hj
 subst hv
 have hlo':(lo.map a.eval)=none∧l.toNat=0∨∃ k,(lo.map a.eval)=some (.int k l.toNat):=by
  rcases hlo with ⟨rfl,rfl⟩ | ⟨o,k,rfl,ho⟩
  ·exact .inl ⟨rfl,rfl⟩
  ·right; refine ⟨k,?_⟩; simp only [Option.map_some,hs.ev ho]; congr 2; omega
 have hhi':(hi.map a.eval)=none∧u.toNat=css.length∨∃ k,(hi.map a.eval)=some (.int k u.toNat):=by
  rcases hhi with ⟨rfl,rfl⟩ | ⟨o,k,rfl,ho⟩
  ·exact .inl ⟨rfl,by simp⟩
  ·right; refine ⟨k,?_⟩; simp only [Option.map_some,hs.ev ho]; congr 2; omega
 have:=C3Q (P:=P) (a:=p) (len:=css.length) (cap:=c) (lo:=l.toNat) (hi:=u.toNat) ht (by omega) (by omega) hlo' hhi' w
 simp only [execOp,hs.ev e,Option.map_none]
 simp [this,B2u]
theorem V.D4c {x:Operand} {t et sz by_ j lo hi:Nat} {v:Value} {css:List (List Value)} {T0 z:Nat} (ht:A0T P t=some (et,sz,by_)) (e:ev ρ x=some (B2u v lo hi z)) (hj:L[j]?=some (F3 T0 z v css)) :
  Val P (XI h L) ρ ⟨d,.call ⟨.builtin .len,#[x],#[t]⟩,ty,pos,af,g⟩ (.int .i64 ((hi - lo:Nat):Int)):=λa w iv hs=>by
 obtain ⟨p,c,hv,hc⟩:=B1W (show Inv w h L from iv) hj
 subst hv
 exact V.len ht e a w (X:=XI h L) iv hs
theorem V.ixV {x ix:Operand} {t et sz by_ j:Nat} {v:Value} {k:IntKind} {l u i:Int} {css:List (List Value)} (ht:A0T P t=some (et,sz,by_)) (e:ev ρ x=some (B2u v l.toNat u.toNat sz)) (e':ev ρ ix=some (.int k i)) (hj:L[j]?=some (F3 et sz v css))
  (hb:0≤l∧0≤i∧i<u - l) (hi:l+i<css.length):Val P (XI h L) ρ ⟨d,.indexAddr t x ix,ty,pos,af,g⟩ (.pointer (some (A0K v (l+i).toNat sz))):=λa w iv hs=>by
 obtain ⟨_,hr⟩:=(show Inv w h L from iv).row hj
 rcases hr with ⟨rfl,rfl⟩ | ⟨b,off,cap,bs,rfl,h1,hb',hsz,hel⟩
 ·simp at hi; omega
 ·have hne:¬ (cap=l.toNat):=by omega
  have e1:ev ρ x=some (.slice (some ⟨b,off+l.toNat*sz,none⟩) (u.toNat - l.toNat) (cap - l.toNat)):=by
   rw [e]; simp [B2u,hne,Addr.add]
  have:=V.ixv (d:=d) (ty:=ty) (pos:=pos) (af:=af) (g:=g) (X:=XI h L) ht e1 e' (by omega) a w iv hs
  rw [this]
  have e2:(l+i).toNat=l.toNat+i.toNat:=by omega
  simp [A0K,e2,Nat.add_mul,Nat.add_assoc]
end
end Go.Sl
namespace Go.Sl
open Go
theorem C8r {α:Type} {xs:List α} {k:Nat} {y:α} {ys:List α} (hk:k<xs.length):A3u (xs.set k y) (k+1) ys=A3u xs k (y::ys):=by
 unfold A3u
 have h1:(xs.set k y).take (k+1)=xs.take k++[y]:=by
  apply List.ext_getElem?
  intro i
  rw [List.getElem?_take,List.getElem?_set,List.getElem?_append]
  simp only [List.length_take]
  have hm:min k xs.length=k:=by omega
  rw [hm,List.getElem?_take]
  by_cases h1:i<k
  ·have:k≠i:=by omega
   simp [h1,this,show i<k+1 by omega]
  ·by_cases h2:i=k
   ·subst h2; simp [hk]
   ·have:¬ (i<k+1):=by omega
    have h3:([y]:List α)[i - k]?=none:=by rw [List.getElem?_eq_none_iff]; simp; omega
    simp [h1,this,h3]
 have h2:(xs.set k y).drop (k+1+ys.length)=xs.drop (k+(y::ys).length):=by
  have e:k+1+ys.length=k+(y::ys).length:=by simp; omega
  rw [e,List.drop_set]
  have:k<k+(y::ys).length:=by simp
  simp [this]
 rw [h1,h2]; simp
theorem C0R {α:Type} {xs:List α} {k:Nat}:A3u xs k []=xs:=by simp [A3u]
theorem C9V {α:Type} {xs ys:List α} {k:Nat} (h:k+ys.length≤xs.length):(A3u xs k ys).length=xs.length:=by simp [A3u]; omega
section
variable {P:Program} {h:PH} {L:List E5}
theorem F3.puts {E b off len cap lo:Nat}:∀ (us:List Value) (i:Nat) (css:List (List Value)) (w:World),Inv w h (F3 E 1 (.slice (some ⟨b,off,none⟩) len cap) css::L)→lo+i+us.length≤css.length→ones us=true→
  ∃ w',(storeCells ⟨b,off+lo,none⟩ us i).run P w=.ok () w'∧Inv w' h (F3 E 1 (.slice (some ⟨b,off,none⟩) len cap) (A3u css (lo+i) (us.map λu=>[u]))::L)
 | [],i,css,w,iv,_,_=>⟨w,by simp [storeCells],by simpa [C0R] using iv⟩
 | u::us,i,css,w,iv,hl,h1=>by
  simp only [List.length_cons] at hl
  simp only [ones,Bool.and_eq_true] at h1
  obtain ⟨w1,r1,iv1⟩:=F3.set (P:=P) iv (i:=lo+i) (by omega) h1.1
  have ha:(⟨b,off+lo,none⟩:Addr).add i=A0K (.slice (some ⟨b,off,none⟩) len cap) (lo+i) 1:=by
   rw [A0W _ _ rfl]; simp [A0K,Nat.add_assoc]
  obtain ⟨w2,r2,iv2⟩:=F3.puts (lo:=lo) us (i+1) (css.set (lo+i) [u]) w1 iv1 (by simp; omega) h1.2
  refine ⟨w2,?_,?_⟩
  ·simp only [storeCells,ha,Sem.run_bind,r1,Result.andThen_ok,r2]
  ·have e:lo+(i+1)=(lo+i)+1:=by omega
   rw [e,C8r (by omega)] at iv2
   exact iv2
def D1 (v:Value) (lo m:Nat) (dv:Value):Prop:=∃ a c,dv=.slice a m c∧(0<m→∃ b off len cap,v=.slice (some ⟨b,off,none⟩) len cap∧a=some ⟨b,off+lo,none⟩)
theorem D1.row {w:World} {j E:Nat} {v:Value} {css:List (List Value)} (iv:Inv w h L) (hj:L[j]?=some (F3 E 1 v css)):D1 v 0 css.length v:=by
 obtain ⟨_,hr⟩:=iv.row hj
 rcases hr with ⟨rfl,rfl⟩ | ⟨b,off,cap,bs,rfl,h1,_⟩
 ·exact ⟨none,0,rfl,λh0=>by simp at h0⟩
 ·exact ⟨_,_,rfl,λ_=>⟨b,off,_,_,rfl,by simp⟩⟩
theorem D1.view {w:World} {j E:Nat} {v:Value} {css:List (List Value)} {lo hi:Nat} (iv:Inv w h L) (hj:L[j]?=some (F3 E 1 v css)) (hb:lo≤hi∧hi≤css.length):D1 v lo (hi - lo) (B2u v lo hi 1):=by
 obtain ⟨_,hr⟩:=iv.row hj
 rcases hr with ⟨rfl,rfl⟩ | ⟨b,off,cap,bs,rfl,h1,_⟩
 ·simp at hb; obtain ⟨rfl,rfl⟩:lo=0∧hi=0:=by omega
  exact ⟨none,0,rfl,λh0=>by simp at h0⟩
 ·refine ⟨_,_,rfl,λh0=>⟨b,off,_,_,rfl,?_⟩⟩
  have:¬ (cap=lo):=by omega
  simp only [if_neg this,Option.map_some,Nat.mul_one,A0W _ lo (show (⟨b,off,none⟩:Addr).spot=none from rfl)]
def C1J (P:Program) (X:World→Prop) (v:Value) (css:List (List Value)):Prop:=
 ∀ w,X w→(Builtin.lenOf v).run P w=.ok css.length w∧∀ n,n≤css.length→(Builtin.firstCells 1 n v).run P w=.ok (css.take n).flatten.toArray w
theorem C1J.fix {X:World→Prop} [HX X h] {v:Value} {css:List (List Value)} (f:Fix h 1 v css):C1J P X v css:=λw hx=>by
 have h0:=(Src.fix (P:=P) (X:=X) f w hx).1
 refine ⟨h0,λn hn=>?_⟩
 obtain ⟨a,c,rfl,hc,hne⟩:=f.shape
 have f2:Fix h 1 (.slice a n c) (css.take n):=⟨A1J.take f.wide,⟨a,c,by simp [Nat.min_eq_left hn],by simp; omega,λq=>hne (by rintro rfl; simp at q)⟩,λi d hi=>by
  rw [List.getElem?_take] at hi
  split at hi
  ·have:=f.at_ i d hi
   cases a <;> exact this
  ·cases hi⟩
 have:=(Src.fix (P:=P) (X:=X) f2 w hx).2
 have e:(css.take n).length=n:=by simp [Nat.min_eq_left hn]
 rw [e] at this
 cases a <;> exact this
theorem C1J.view {j E lo hi:Nat} {v:Value} {css:List (List Value)} (hj:L[j]?=some (F3 E 1 v css)) (hb:lo≤hi∧hi≤css.length):C1J P (XI h L) (B2u v lo hi 1) ((css.drop lo).take (hi - lo)):=λw iv=>by
 obtain ⟨hw,hr⟩:=(show Inv w h L from iv).row hj
 have hlen:((css.drop lo).take (hi - lo)).length=hi - lo:=by simp; omega
 rcases hr with ⟨rfl,rfl⟩ | ⟨b,off,cap,bs,rfl,h1,hbk,hsz,hel⟩
 ·simp at hb; obtain ⟨rfl,rfl⟩:lo=0∧hi=0:=by omega
  exact ⟨rfl,λn hn=>by simp at hn; subst hn; simp [Builtin.firstCells,B2u]⟩
 ·refine ⟨by rw [hlen]; rfl,λn hn=>?_⟩
  rw [hlen] at hn
  by_cases h0:cap=lo
  ·have:n=0:=by omega
   subst this
   simp [B2u,h0,Builtin.firstCells,loadCells,loadCellsFrom]
  ·have e0:B2u (.slice (some ⟨b,off,none⟩) css.length cap) lo hi 1=.slice (some ⟨b,off+lo,none⟩) (hi - lo) (cap - lo):=by
    simp only [B2u,if_neg h0,Option.map_some,Nat.mul_one,A0W _ lo (show (⟨b,off,none⟩:Addr).spot=none from rfl)]
   have e1:((css.drop lo).take (hi - lo)).take n=(css.drop lo).take n:=by rw [List.take_take]; congr 1; omega
   have:=B8K (P:=P) (css:=(css.drop lo).take n) (off:=off+lo) (A1J.take (A1J.drop hw)) hbk (λi u e=>by
    have h2:css.flatten[lo+i]?=some u:=by
     have e3:css.flatten=(css.take lo).flatten++((css.drop lo).take n).flatten++((css.drop lo).drop n).flatten:=by
      rw [←List.flatten_append,←List.flatten_append,List.append_assoc,List.take_append_drop,List.take_append_drop]
     have e4:(css.take lo).flatten.length=lo:=by
      rw [A1c (A1J.take (n:=lo) hw)]; simp; omega
     have hi':i<((css.drop lo).take n).flatten.length:=by
      rcases Nat.lt_or_ge i ((css.drop lo).take n).flatten.length with q | q
      ·exact q
      ·simp [List.getElem?_eq_none q] at e
     rw [e3,List.append_assoc,List.getElem?_append_right (by omega),e4,Nat.add_sub_cancel_left,List.getElem?_append_left hi']
     exact e
    have:=hel _ _ h2
    rw [←this]; congr 1; omega)
   have e:((css.drop lo).take n).length=n:=by simp; omega
   rw [e] at this
   rw [e0,e1]
   simpa [Builtin.firstCells] using this
variable {ro:Option Nat} {n:Nat} {D:List Deferred} {ρ:Env} {Q:Exit→Act→World→Prop} {K:Act→World→Prop}
variable {ty:TypeId} {pos:String} {af:Array Edge} {g:Option (Nat×Bool)}
theorem D3K {ds:List (List Value)} (hw:A1J 1 ds):(ds.flatten.map λu=>[u])=ds:=by
 induction ds with
 | nil=>rfl
 | cons c ds ih=>
  have hc:=hw c List.mem_cons_self
  obtain ⟨x,rfl⟩:∃ x,c=[x]:=by
   match c,hc with
   | [x],_=>exact ⟨x,rfl⟩
  simp only [List.flatten_cons,List.map_append,ih (λd hd=>hw d (List.mem_cons_of_mem _ hd))]; rfl
theorem C9N {a b:List Value} (h:ones (a++b)=true):ones a=true:=by
 induction a with
 | nil=>rfl
 | cons x a ih=>simp only [List.cons_append,ones,Bool.and_eq_true] at h; simp [ones,h.1,ih h.2]
theorem O.copy {dd:Nat} {x y:Operand} {t xt et by_ j lo m:Nat} {v dv sv:Value} {css ds:List (List Value)} (ht:A0T P t=some (et,1,by_)) (e:ev ρ x=some dv) (e':ev ρ y=some sv) (hj:L[j]?=some (F3 et 1 v css))
  (hd1:∀ w,Inv w h L→D1 v lo m dv) (hm:lo+m≤css.length) (hs:C1J P (XI h L) sv ds) (hw:A1J 1 ds) (h1:ones ds.flatten=true) (hd:Nat.blt dd n=true)
  (kk:T n D ((dd,.int .i64 ((min ds.length m:Nat):Int))::ρ) h (F3 et 1 v (A3u css lo (ds.take (min ds.length m)))::L.eraseIdx j) K) :
  T n D ρ h L (λa w=>Oper.wr ⟨some dd,.call ⟨.builtin .copy,#[x,y],#[t,xt]⟩,ty,pos,af,g⟩ ro P a w K Q):=λa w f iv=>by
 obtain ⟨e1,e2,e3⟩:=A6O ht
 obtain ⟨ba,c,rfl,hne⟩:=hd1 w iv
 obtain ⟨s1,s2⟩:=hs w iv
 have s2:=s2 (min ds.length m) (Nat.min_le_left _ _)
 have iv1:=iv.front hj
 have key:∃ w',(execOp a.eval ⟨some dd,.call ⟨.builtin .copy,#[x,y],#[t,xt]⟩,ty,pos,af,g⟩).run P w=.ok (.value (.int .i64 ((min ds.length m:Nat):Int))) w'∧Inv w' h (F3 et 1 v (A3u css lo (ds.take (min ds.length m)))::L.eraseIdx j):=by
  have hmn:Nat.min ds.length m=min ds.length m:=rfl
  by_cases h0:0<m
  ·obtain ⟨b,off,len,cap,rfl,rfl⟩:=hne h0
   obtain ⟨w',r1,r2⟩:=F3.puts (P:=P) (lo:=lo) (ds.take (min ds.length m)).flatten 0 css w iv1 (by
    rw [A1c (A1J.take (n:=min ds.length m) hw)]; simp; omega) (by
    have e5:ds.flatten=(ds.take (min ds.length m)).flatten++(ds.drop (min ds.length m)).flatten:=by rw [←List.flatten_append,List.take_append_drop]
    rw [e5] at h1; exact C9N h1)
   refine ⟨w',?_,?_⟩
   ·simp [execOp,resolve,invoke,builtin,f.has.ev e,f.has.ev e',Builtin.copy_,e1,e2,s1,hmn,s2,r1,goInt]
   ·rw [D3K (A1J.take hw)] at r2; exact r2
  ·have hm0:m=0:=by omega
   subst hm0
   have e5:min ds.length 0=0:=by omega
   rw [e5] at s2 ⊢
   simp only [List.take_zero,List.flatten_nil] at s2
   refine ⟨w,?_,by simpa [C0R] using iv1⟩
   cases ba <;> simp [execOp,resolve,invoke,builtin,f.has.ev e,f.has.ev e',Builtin.copy_,e1,e2,s1,hmn,s2,goInt,storeCells]
 obtain ⟨w',r1,r2⟩:=key
 exact A0j r1 (kk _ w' (f.put hd) r2)
theorem O.clear {x:Operand} {t et by_ j lo m:Nat} {v dv z:Value} {css:List (List Value)} (ht:A0T P t=some (et,1,by_)) (hz:zer P et=some z) (hz1:z.cells=#[z]) (hz2:z.oneCell'=true) (e:ev ρ x=some dv) (hj:L[j]?=some (F3 et 1 v css))
  (hd1:∀ w,Inv w h L→D1 v lo m dv) (hm:lo+m≤css.length)
  (kk:T n D ρ h (F3 et 1 v (A3u css lo (List.replicate m [z]))::L.eraseIdx j) K) :
  T n D ρ h L (λa w=>Oper.wr ⟨none,.call ⟨.builtin .clear,#[x],#[t]⟩,ty,pos,af,g⟩ ro P a w K Q):=λa w f iv=>by
 obtain ⟨e1,e2,e3⟩:=A6O ht
 obtain ⟨ba,c,rfl,hne⟩:=hd1 w iv
 have iv1:=iv.front hj
 have key:∃ w',(execOp a.eval ⟨none,.call ⟨.builtin .clear,#[x],#[t]⟩,ty,pos,af,g⟩).run P w=.ok (.value (.tuple #[])) w'∧Inv w' h (F3 et 1 v (A3u css lo (List.replicate m [z]))::L.eraseIdx j):=by
  by_cases h0:0<m
  ·obtain ⟨b,off,len,cap,rfl,rfl⟩:=hne h0
   obtain ⟨m',rfl⟩:∃ k,m=k+1:=⟨m - 1,by omega⟩
   obtain ⟨w',r1,r2⟩:=F3.puts (P:=P) (lo:=lo) (List.replicate (m'+1) z) 0 css w iv1 (by simp; omega) (by
    clear hm hne h0 hd1 kk e hj iv iv1 hz
    induction m'+1 with
    | zero=>rfl
    | succ k ih=>simp [List.replicate_succ,ones,hz2,ih])
   have hc:(Builtin.zeroCells #[z] (m'+1)).toList=List.replicate (m'+1) z:=by
    unfold Builtin.zeroCells
    apply List.ext_getElem
    ·simp
    ·intro i h1 h2
     simp only [List.getElem_replicate,Array.getElem_toList,Array.getElem_map]
     simp [Nat.mod_one]
   refine ⟨w',?_,?_⟩
   ·simp [execOp,resolve,invoke,builtin,f.has.ev e,Builtin.clear_,e1,A9A hz,hz1,hc,r1]
   ·have e6:((List.replicate (m'+1) z).map λu=>[u])=List.replicate (m'+1) [z]:=by simp
    rw [e6] at r2; exact r2
  ·have hm0:m=0:=by omega
   subst hm0
   refine ⟨w,?_,by simpa [C0R] using iv1⟩
   cases ba <;> simp [execOp,resolve,invoke,builtin,f.has.ev e,Builtin.clear_,e1]
 obtain ⟨w',r1,r2⟩:=key
 exact A0j r1 (kk _ w' f r2)
theorem O.slP {dd:Nat} {x o:Operand} {t et sz by_ j:Nat} {v:Value} {k:IntKind} {css:List (List Value)} {u:Int} (ht:A0T P t=some (et,sz,by_)) (e:ev ρ x=some v) (e':ev ρ o=some (.int k u)) (hj:L[j]?=some (F3 et sz v css)) (hu:0≤u∧u≤css.length) (hd:Nat.blt dd n=true)
  (kk:∀ v',T n D ((dd,v')::ρ) h (F3 et sz v' (css.take u.toNat)::L.eraseIdx j) K) :
  T n D ρ h L (λa w=>Oper.wr ⟨some dd,.slice t x none (some o) none,ty,pos,af,g⟩ ro P a w K Q):=λa w f iv=>by
 obtain ⟨p,c,hv,hc⟩:=B1W iv hj
 have hr:(execOp a.eval ⟨some dd,.slice t x none (some o) none,ty,pos,af,g⟩).run P w=.ok (.value (B2u v (0:Int).toNat u.toNat sz)) w:=
  V.slV (j:=j) (l:=0) (u:=u) ht e hj (.inl ⟨rfl,rfl⟩) (.inr ⟨o,k,rfl,e'⟩) (by omega) a w iv f.has
 refine A0j hr (kk _ _ w (f.put hd) ?_)
 have iv1:=iv.front hj
 refine iv1.weak λmm hh=>?_
 obtain ⟨hw,hr⟩:=hh
 refine ⟨A1J.take hw,?_⟩
 rcases hr with ⟨rfl,rfl⟩ | ⟨b,off,cap,bs,rfl,h1,hb,hsz,hel⟩
 ·left; simp at hu; obtain rfl:u=0:=by omega
  simp [B2u]
 ·have hl:(css.take u.toNat).length=u.toNat:=by simp; omega
  by_cases h0:cap=0
  ·have hc0:css=[]:=by cases css with
    | nil=>rfl
    | cons c css=>simp at h1; omega
   subst hc0; simp at hu; obtain rfl:u=0:=by omega
   subst h0
   right; exact ⟨b,off,0,bs,by simp [B2u],by simp,hb,hsz,by simp⟩
  ·right
   refine ⟨b,off,cap,bs,?_,by omega,hb,hsz,λi q hi=>hel i q ?_⟩
   ·rw [hl]
    simp [B2u,h0,Addr.add]
   ·have h2:(css.take u.toNat++css.drop u.toNat).flatten[i]?=some q:=by
     rw [List.flatten_append,List.getElem?_append_left]; · exact hi
     ·rcases Nat.lt_or_ge i (css.take u.toNat).flatten.length with z | z
      ·exact z
      ·simp [List.getElem?_eq_none z] at hi
    rwa [List.take_append_drop] at h2
end
end Go.Sl
namespace Go.Sl
open Go
section
variable {P:Program} {ρ:Env} {h:PH} {L:List E5} {d:Option Nat} {ty:TypeId} {pos:String} {af:Array Edge} {g:Option (Nat×Bool)}
theorem V.C3J {x:Operand} {lo hi:Option Operand} {t et sz by_ j N:Nat} {v:Value} {css:List (List Value)} {l u:Int} (ht:A0T P t=some (et,sz,by_)) (e:ev ρ x=some v) (hj:L[j]?=some (F3 et sz v css)) (hl:css.length=N)
  (hlo:lo=none∧l=0∨∃ o k,lo=some o∧ev ρ o=some (.int k l)) (hhi:hi=none∧u=N∨∃ o k,hi=some o∧ev ρ o=some (.int k u)) (hb:0≤l∧l≤u∧u≤(N:Int)) :
  Val P (XI h L) ρ ⟨d,.slice t x lo hi none,ty,pos,af,g⟩ (B2u v l.toNat u.toNat sz):=by
 subst hl; exact V.slV ht e hj hlo hhi hb
theorem D1.D4G {w:World} {j E N:Nat} {v:Value} {css:List (List Value)} (iv:Inv w h L) (hj:L[j]?=some (F3 E 1 v css)) (hl:css.length=N):D1 v 0 N v:=by
 subst hl; exact D1.row iv hj
theorem D1.C2Q {w:World} {j E N:Nat} {v:Value} {css:List (List Value)} {lo hi:Int} (iv:Inv w h L) (hj:L[j]?=some (F3 E 1 v css)) (hl:css.length=N) (hb:0≤lo∧lo≤hi∧hi≤(N:Int)):D1 v lo.toNat (hi.toNat - lo.toNat) (B2u v lo.toNat hi.toNat 1):=by
 subst hl; exact D1.view iv hj (by omega)
theorem C1J.C2Q {j E N:Nat} {v:Value} {css:List (List Value)} {lo hi:Int} (hj:L[j]?=some (F3 E 1 v css)) (hl:css.length=N) (hb:0≤lo∧lo≤hi∧hi≤(N:Int)):C1J P (XI h L) (B2u v lo.toNat hi.toNat 1) ((css.drop lo.toNat).take (hi.toNat - lo.toNat)):=by
 subst hl; exact C1J.view hj (by omega)
end
def cpL {α:Type} (xs:List α) (lo m:Nat) (ys:List α):Option (List α×Int):=some (A3u xs lo (ys.take (min ys.length m)),((min ys.length m:Nat):Int))
section
variable {α:Type} {E:Vr α} {h:PH} {css ds:List (List Value)} {xs ys zs:List α}
theorem A8.cp {lo m:Nat} {n:Int} (f:A8 E h css xs) (g:A8 E h ds ys) (hm:lo+m≤css.length) (e:cpL xs lo m ys=some (zs,n)):A8 E h (A3u css lo (ds.take (min ds.length m))) zs:=by
 cases e
 rw [g.len]
 exact f.put (g.take _) (by rw [←f.len]; omega)
theorem D4a {lo m:Nat} {n:Int} (g:A8 E h ds ys) (e:cpL xs lo m ys=some (zs,n)):n=((min ds.length m:Nat):Int):=by
 cases e; rw [g.len]
theorem A8.clr {lo m:Nat} {z:α} {c:Value} (f:A8 E h css xs) (hz:E h [c] z) (hm:lo+m≤css.length) (e:some (A3u xs lo (List.replicate m z))=some zs):A8 E h (A3u css lo (List.replicate m [c])) zs:=by
 cases e
 refine f.put ⟨by simp,λi x hx=>?_⟩ (by rw [←f.len]; omega)
 rw [List.getElem?_replicate] at hx
 split at hx
 ·rename_i hi; cases hx; exact ⟨[c],by rw [List.getElem?_replicate,if_pos hi],hz⟩
 ·cases hx
theorem A8.slp {u:Int} (f:A8 E h css xs) (e:sbL xs 0 u=some ys):A8 E h (css.take u.toNat) ys:=by
 obtain ⟨rfl,_,h1,h2⟩:=A3O e
 have e2:sub xs (0:Int).toNat u.toNat=xs.take u.toNat:=by simp [sub]
 rw [e2]; exact f.take _
theorem A8.D2J {u:Int} (f:A8 E h css xs) (e:sbL xs 0 u=some ys):0≤u∧u≤css.length:=by
 obtain ⟨_,h0,h1,h2⟩:=A3O e
 rw [f.len]; omega
theorem C7a {lo hi:Int} {N:Nat} {css:List (List Value)} {u:Unit} (hl:css.length=N) (hb:bdV lo hi (N:Int)=some u):lo.toNat+(hi.toNat - lo.toNat)≤css.length:=by
 have:=A4S hb; omega
end
section
variable {ro:Option Nat} {P:Program} {n:Nat} {D:List Deferred} {ρ:Env} {h:PH} {L:List E5} {Y:Act→World→Prop}
theorem T.int {t:Nat} {a b:Int} {k:IntKind} (e:a=b) (kk:T n D ((t,.int k b)::ρ) h L Y):T n D ((t,.int k a)::ρ) h L Y:=by subst e; exact kk
end
end Go.Sl
namespace Go.Sl
open Go
def C3H (k:IntKind) (b c:Int):Option Int:=match b,c with
 | .ofNat m,.ofNat n=>bif Nat.blt m (2 ^ k.bits) && Nat.blt n (2 ^ k.bits) && decide (k.wrap (Int.ofNat (Nat.land m n))=Int.ofNat (Nat.land m n)) then some (.ofNat (Nat.land m n)) else none
 | _,_=>none
section
variable {P:Program} {ρ:Env} {X:World→Prop} {d:Option Nat} {ty:TypeId} {pos:String} {af:Array Edge} {g:Option (Nat×Bool)}
theorem V.C3H {x y:Operand} {k:IntKind} {b c z:Int} {t u:TypeId} (e:ev ρ x=some (.int k b)) (e':ev ρ y=some (.int k c)) (hz:Sl.C3H k b c=some z):Val P X ρ ⟨d,.binOp .and t x y u,ty,pos,af,g⟩ (.int k z):=
 λa w _ hs=>by
  unfold Sl.C3H at hz
  match b,c,e,e',hz with
  | .ofNat m,.ofNat n,e,e',hz=>
   dsimp only at hz
   generalize hB:(Nat.blt m (2 ^ k.bits) && Nat.blt n (2 ^ k.bits) && decide (k.wrap (Int.ofNat (Nat.land m n))=Int.ofNat (Nat.land m n)))=B at hz
   cases B with
   | false=>cases hz
   | true=>
    simp only [cond_true,Option.some.injEq] at hz
    subst hz
    simp only [Bool.and_eq_true,decide_eq_true_eq] at hB
    have h1:m<2 ^ k.bits:=Nat.le_of_ble_eq_true hB.1.1
    have h2:n<2 ^ k.bits:=Nat.le_of_ble_eq_true hB.1.2
    have h3:(BitVec.ofInt k.bits (Int.ofNat m) &&& BitVec.ofInt k.bits (Int.ofNat n)).toNat=Nat.land m n:=by
     rw [BitVec.toNat_and]
     have e1:(BitVec.ofInt k.bits (Int.ofNat m)).toNat=m:=by
      simp; exact_mod_cast Nat.mod_eq_of_lt h1
     have e2:(BitVec.ofInt k.bits (Int.ofNat n)).toNat=n:=by
      simp; exact_mod_cast Nat.mod_eq_of_lt h2
     rw [e1,e2]; rfl
    have h4:=hB.2
    have g1:=Nat.mod_eq_of_lt h1
    have g2:=Nat.mod_eq_of_lt h2
    simp [execOp,hs.ev e,hs.ev e',eqGuard,binOp,Op.intBits,g1,g2]
    exact h4
theorem V.D0n {x y:Operand} {k:IntKind} {b c z:Int} {t u:TypeId} (e:ev ρ x=some (.int k b)) (e':ev ρ y=some (.int k c)) (hz:A0Q k (b*c)=some z):Val P X ρ ⟨d,.binOp .mul t x y u,ty,pos,af,g⟩ (.int k z):=
 λa w _ hs=>by
  obtain ⟨rfl,hb⟩:=C3D hz
  simp [execOp,hs.ev e,hs.ev e',eqGuard,binOp,Op.intArith,hb]
end
end Go.Sl
