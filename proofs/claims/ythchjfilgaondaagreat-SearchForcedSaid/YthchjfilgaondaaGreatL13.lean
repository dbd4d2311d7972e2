import Derived.Test.YthchjfilgaondaaGreatL12
import Derived.KernelRfl
/- Rules. -/
set_option maxRecDepth 1000000
set_option maxHeartbeats 40000000
set_option linter.unusedVariables false
set_option linter.unusedSimpArgs false
set_option linter.unusedSectionVars false
set_option linter.unnecessarySimpa false
namespace Go.Sl
open Go
class MixC (P:Program):Prop where
 m:P.follows .mixedOrders=true
theorem Rq {α:Type} {E:Vr α} {h:PH} {css:List (List Value)} {xs:List α} (f:A8 E h css xs:=by repeat (first | exact A8.nil | refine A8.cons rfl ?_)):A8 E h css xs:=f
section
variable {ro:Option Nat} {P:Program} {n:Nat} {D:List Deferred} {ρ:Env} {h:PH} {L:List E5} {Q:Exit→Act→World→Prop} {K:Act→World→Prop} {ty:TypeId} {pos:String} {af:Array Edge} {g:Option (Nat×Bool)} {ops:Array Oper}
theorem T.rn {α:Type} {Y:Act→World→Prop} (E:Vr α) (t sz:Nat) (k:A8 E h [] []→T n D ρ h (F3 t sz (.slice none 0 0) []::L) Y):T n D ρ h L Y:=T.D2v t sz (k A8.nil)
theorem T.dw [m:MixC P] {id:Nat} (t:PT) (p k0 k1:Nat) {As0 R0 As1 R1:List E5} (k:T n D ρ h L (wpT ro P ops p (XA h As0) (XA h As1) Q t false)) (h0:C6D k0 L=some (As0,R0):=by rfl) (h1:C6D k1 L=some (As1,R1):=by rfl)
  (hl:B6I ops p t=true:=by kernel_rfl):T n D ρ h L ((Code.region id ops true).wr ro P Q):=T.D2d p k0 k1 h0 h1 m.m hl k
theorem O.bq {α:Type} {dd:Nat} {t et sz by_ k:Nat} {vs:List Value} {zv:Value} (ht:A0T P t=some (et,sz,by_)) (hz:zer P et=some zv) (xs:List Operand) (E:Vr α) (css:List (List Value)) (ys:List α)
  (kk:∀ b,A8 E h css ys→T n D ((dd,.slice (some ⟨b,0,none⟩) k k)::ρ) h (F3 et sz (.slice (some ⟨b,0,none⟩) k k) css::L) K) (hE:A8 E h css ys:=by exact Rq)
  (hzs:(Nat.beq zv.cells.size sz && Nat.blt 0 sz && Nat.ble (k*sz) 16777216)=true:=by rfl) (e:evs ρ xs=some vs:=by rfl) (hk:(Nat.beq xs.length k && Nat.blt 0 k)=true:=by rfl)
  (hv:CO vs css:=by repeat (first | exact CO.nil | refine CO.cons rfl ?_ | refine CO.cons (G9.cells (by assumption)) ?_)) (hw:C5l sz css=true:=by rfl) (hd:Nat.blt dd n=true:=by rfl) :
  T n D ρ h L (λa w=>Oper.wr ⟨some dd,.buildSlice t k (((List.range' 0 xs.length).zip xs).toArray),ty,pos,af,g⟩ ro P a w K Q):=O.bs ht hz hzs e hk (CO.eq hv) (A1J.of hw) hd λb=>kk b hE
theorem O.ax {α:Type} {E:Vr α} {dd:Nat} {x y:Operand} {t et sz by_:Nat} {v u zv:Value} {css ds:List (List Value)} {xs ys zs:List α} (ht:A0T P t=some (et,sz,by_)) (hz:zer P et=some zv) (j:Nat)
  (hf:A8 E h css xs) (hg:A8 E h ds ys) (ha:apL xs ys=some zs) (pl:Plain E)
  (kk:∀ v',A8 E h (css++ds) zs→T n D ((dd,v')::ρ) h (F3 et sz v' (css++ds)::L.eraseIdx j) K) (hzs:(Nat.beq zv.cells.size sz && Nat.ble by_ 4096)=true:=by rfl)
  (e:ev ρ x=some v:=by rfl) (e':ev ρ y=some u:=by rfl) (hj:L[j]?=some (F3 et sz v css):=by rfl) (hi:L[0]?=some (F3 et sz u ds):=by rfl) (hw:C5l sz ds=true:=by rfl) (hd:Nat.blt dd n=true:=by rfl) :
  T n D ρ h L (λa w=>Oper.wr ⟨some dd,.call ⟨.builtin .append,#[x,y],#[t,t]⟩,ty,pos,af,g⟩ ro P a w K Q):=
 O.apX ht ht hz hzs e e' hj (Src.row (j:=0) hi) (A1J.of hw) (A8.ones pl hg) hf hg ha hd λv' _ _=>kk v' (A8.ap hf hg ha)
end
end Go.Sl
