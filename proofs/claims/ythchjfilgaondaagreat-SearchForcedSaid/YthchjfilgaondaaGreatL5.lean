import Derived.Test.YthchjfilgaondaaGreatL4
import Derived.Laws.BytesString
/- Rules. -/
set_option maxRecDepth 1000000
set_option maxHeartbeats 40000000
set_option linter.unusedVariables false
set_option linter.unusedSimpArgs false
set_option linter.unusedSectionVars false
set_option linter.unnecessarySimpa false
namespace Go.Sl
open Go
def D5W (b c:Int):Option Int:=match b,c with
 | .ofNat m,.ofNat n=>bif Nat.blt n 64 then some (.ofNat (m / 2 ^ n)) else none
 | _,_=>none
def B8q (xs:List Int):ByteArray:=xs.foldl (λr n=>r.push (UInt8.ofNat n.toNat)) ByteArray.empty
section
variable {P:Program} {ρ:Env} {h:PH} {L:List E5} {X:World→Prop} {d:Option Nat} {ty:TypeId} {pos:String} {af:Array Edge} {g:Option (Nat×Bool)}
def A3S (k:IntKind) (b c:Int):Option Int:=match b,c with
 | .ofNat m,.ofNat n=>bif Nat.ble n k.bits then some (.ofNat (m / 2 ^ n)) else none
 | _,_=>none
theorem V.A3S {x y:Operand} {k0 k:IntKind} {b c z:Int} {t u:TypeId} (e:ev ρ x=some (.int k0 b)) (e':ev ρ y=some (.int k c)) (hz:Sl.A3S k0 b c=some z):Val P X ρ ⟨d,.binOp .shr t x y u,ty,pos,af,g⟩ (.int k0 z):=
 λa w _ hs=>by
  unfold Sl.A3S at hz
  split at hz
  ·rename_i m n
   cases hb:Nat.ble n k0.bits with
   | false=>simp [hb] at hz
   | true=>
    simp [hb] at hz; subst hz
    have hn:n≤k0.bits:=Nat.le_of_ble_eq_true hb
    have h1:¬ ((Int.ofNat n)<0):=by simp
    have h2:min (Int.ofNat n).toNat k0.bits=n:=by show min n k0.bits=n; omega
    have h3:Int.fdiv (Int.ofNat m) (2 ^ n)=(Int.ofNat (m / 2 ^ n)):=by
     have:(2:Int) ^ n=Int.ofNat (2 ^ n):=by
      have:=Int.natCast_pow 2 n
      exact this.symm
     rw [this,Int.fdiv_eq_ediv_of_nonneg (Int.ofNat m) (show (0:Int)≤Int.ofNat (2 ^ n) from Int.natCast_nonneg _)]; rfl
    simp only [execOp,hs.ev e,hs.ev e',eqGuard,binOp,Op.shift,h1,h2,if_false,h3]
    simp
  ·cases hz
theorem A8.C9j {k:IntKind} {css:List (List Value)} {xs:List Int} (f:A8 (VI k) h css xs):css=xs.map λz=>[.int k z]:=by
 apply List.ext_getElem?
 intro i
 rw [List.getElem?_map]
 cases hx:xs[i]? with
 | none=>
  have:css[i]?=none:=by
   rw [List.getElem?_eq_none_iff] at hx ⊢; rw [f.len]; exact hx
  simp [this]
 | some x=>
  obtain ⟨c,hc,he⟩:=f.at_ i x hx
  rw [hc,show c=_ from he]; rfl
theorem V.D3X {x:Operand} {src dst e T0 j:Nat} {v:Value} {css:List (List Value)} {xs:List Int} (hs:P.underlying src=some (.slice e)) (he:P.underlying e=some (.int .u8)) (hd:P.underlying dst=some .string) (e0:ev ρ x=some v) (hj:L[j]?=some (F3 T0 1 v css)) (hc:css=xs.map λz=>[.int .u8 z]) :
  Val P (XI h L) ρ ⟨d,.convert src dst x,ty,pos,af,g⟩ (.string (B8q xs)):=λa w iv hh=>by
 subst hc
 obtain ⟨hw,hr⟩:=(show Inv w h L from iv).row hj
 rcases hr with ⟨rfl,h0⟩ | ⟨b,off,cap,bs,rfl,h1,hb,hsz,hel⟩
 ·have:xs=[]:=by simpa using h0
  subst this
  simp [execOp,hh.ev e0,run_convert_bytes_string w src dst e _ _ _ hs he hd,Conv.bytesToString,B8q]
 ·have hl:=B8K (P:=P) hw hb hel
  have hfl:(xs.map λz=>[Value.int .u8 z]).flatten=xs.map (Value.int .u8):=by
   clear hel hl hw hb h1 hsz hj e0
   induction xs with
   | nil=>rfl
   | cons y ys ih=>simp only [List.map_cons,List.flatten_cons,ih]; rfl
  rw [hfl,Nat.mul_one] at hl
  simp only [execOp,hh.ev e0,Sem.run_bind,run_convert_bytes_string w src dst e _ _ _ hs he hd,run_bytesToString w _ _ cap _ hl]
  rfl
end
end Go.Sl
namespace Go.Sl
open Go
section
variable {ro:Option Nat} {P:Program} {n:Nat} {D:List Deferred} {ρ:Env} {h:PH} {L:List E5} {Q:Exit→Act→World→Prop} {K:Act→World→Prop}
variable {d:Option Nat} {ty:TypeId} {pos:String} {af:Array Edge} {g:Option (Nat×Bool)}
theorem O.A1b {dd:Nat} {x:Operand} {w:Value} {f:FuncId} {us cs:List Value} {xs:List Operand} {ts:Array TypeId} {vs:List Value} {R:Value→PH→List E5→Prop} (e0:ev ρ x=some w) (hw:w=.func (.func f) us.toArray cs.toArray) (e:evs ρ xs=some vs) (s:I7 P f (us++vs++cs) h L R) (hd:Nat.blt dd n=true)
  (k:∀ v h' L',Le h h'→R v h' L'→T n D ((dd,v)::ρ) h' L' K) :
  T n D ρ h L (λa w=>Oper.wr ⟨some dd,.call ⟨.value x,xs.toArray,ts⟩,ty,pos,af,g⟩ ro P a w K Q):=by
 subst hw; exact O.D2r e0 e s hd k
end
end Go.Sl
namespace Go.Sl
theorem A8.sl {α:Type} {E:Vr α} {h:PH} {css:List (List Value)} {xs ys:List α} {l:Int} (f:A8 E h css xs) (e:sbL xs l xs.length=some ys):A8 E h (css.drop l.toNat) ys:=by
 obtain ⟨rfl,h0,h1,h2⟩:=A3O e
 have e2:sub xs l.toNat ((xs.length:Int)).toNat=xs.drop l.toNat:=by simp [sub]
 rw [e2]
 refine ⟨by simp [f.len],λi x hx=>?_⟩
 rw [List.getElem?_drop] at hx
 obtain ⟨c,hc,he⟩:=f.at_ _ x hx
 exact ⟨c,by rw [List.getElem?_drop]; exact hc,he⟩
theorem A8.slb {α:Type} {E:Vr α} {h:PH} {css:List (List Value)} {xs ys:List α} {l:Int} (f:A8 E h css xs) (e:sbL xs l xs.length=some ys):0≤l∧l≤css.length:=by
 obtain ⟨_,h0,h1,_⟩:=A3O e
 rw [f.len]; exact ⟨h0,h1⟩
end Go.Sl
namespace Go.Sl
theorem dead {α:Type} {r:α} {C:Prop} (H:(none:Option α)=some r):C:=by cases H
end Go.Sl
