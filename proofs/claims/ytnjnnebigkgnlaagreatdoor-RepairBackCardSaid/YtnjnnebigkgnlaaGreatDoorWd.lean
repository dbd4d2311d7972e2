import Derived.Test.YtnjnnebigkgnlaaGreatDoorChecked
import Derived.KernelRfl
import Derived.Test.YtnjnnebigkgnlaaGreatDoorV
import Derived.Test.YtnjnnebigkgnlaaGreatDoorL12
import Derived.Test.YtnjnnebigkgnlaaGreatDoorDa
import Derived.Test.YtnjnnebigkgnlaaGreatDoorL10
import Derived.Test.YtnjnnebigkgnlaaGreatDoorWc
/- The walks: each function computes what its Lean function says. -/
set_option maxRecDepth 1000000
set_option maxHeartbeats 40000000
set_option linter.unusedVariables false
set_option linter.unusedSimpArgs false
set_option linter.unnecessarySimpa false
open Go Go.Proofs Go.Proofs.Tryz Go.Sl Go.Dm
namespace Go.Proofs.X
theorem A7p : A0X prog 22 = some (5,1,1):=by kernel_rfl
theorem B3e : A0X prog 23 = some (60,1,2):=by kernel_rfl
theorem C4H : A0X prog 24 = some (63,1,4):=by kernel_rfl
theorem B9L : N8 prog 26 0 = some 0:=by kernel_rfl
theorem B6b : N8 prog 26 1 = some 1:=by kernel_rfl
theorem C0l : N8 prog 26 2 = some 2:=by kernel_rfl
theorem C0d : N8 prog 26 3 = some 3:=by kernel_rfl
theorem B6v : X9 prog 22 = some (false,1):=by kernel_rfl
theorem C1j : X9 prog 23 = some (false,1):=by kernel_rfl
theorem C4r : X9 prog 24 = some (false,1):=by kernel_rfl
theorem C5m : X9 prog 60 = some (false,1):=by kernel_rfl
theorem C8F : X9 prog 63 = some (false,1):=by kernel_rfl
theorem C6O : zer prog 5 = some (.int .u8 (0)):=by kernel_rfl
theorem B6M : zer prog 58 = some (.agg #[.slice none 0 0,.slice none 0 0]):=by kernel_rfl
theorem A0U {h a b} (H:A0i a = some b):∀ L,G8 prog 34 [.int .i64 a] h (L) (fun v h' L'=>v = .string b∧L' = L):=by
 intro L
 refine G8.enter func34 z z z<|Sr<|Ag z<|Nt<|Sr<|Mv z<|bE H fun q f H=>Vv (V.B2e z z f)<|bE H fun r g H=>Vv (V.A1a z z g)<|bE H fun s i H=>Vv (V.J2 z z i)<|bE H fun c k H=>Vv (V.A4v underlying3 underlying5 z k)<|Mv z<|bE H fun t m H=>Vv (V.A1a z z m)<|bE H fun u n H=>Vv (V.J2 z z n)<|bE H fun d o H=>Vv (V.A4v underlying3 underlying5 z o)<|To (O.bs A7p C6O z (e:=z) (hk:=z) (xs:=[.tmp 7,.tmp 11]) (hv:=CO.eq (CO.cons z (CO.cons z CO.nil))) (hw:=O4.of z) (hd:=z) fun w=>have p:A7 (VI .u8) h [[.int .u8 c],[.int .u8 d]] ([c,d]:List Int):=(A7.cons z (A7.cons z A7.nil)); Vv (V.D1C underlying22 underlying5 underlying9 z (j:=0) z (A7.C8j p))<|Ag z<|Nt<|T.ret<|T.drop ?_)
 exact E1 H
theorem B2O {h f r1 c i} (p:C5s h f r1) (H:A2v r1 c = some i):∀ L,G8 prog 35 [.agg f.toArray,.int .i64 c] h (L) (fun v h' L'=>v = .bool i∧L' = L):=by
 intro L
 obtain ⟨E,G,rfl,d⟩:=p
 refine G8.enter func35 z z z<|Sr<|To (O.Y0 z z z fun I J K j=>Ag z<|Nt<|Sq<|Sr<|Ag z<|Nt ?_)
 obtain ⟨m,q,n⟩:=M5 H
 refine T.M7 (α:=Unit) [] z (fun _u=>[]) (fun _u=>L) (fun _u hh=>m = (Sum.inl ())) ?_ ?_
 ·have H:=q
  refine Bl<|T.M8 (α:=Nat×Int) [1,2] z (fun ⟨a,b⟩=>[(5,qi b)]) (fun ⟨a,b⟩=>L) (fun ⟨a,b⟩ hh=>iter (A5R r1 c) a b = some m) (fun ⟨a,b⟩=>a) (FUEL,(0:Int)) ⟨z,trivial⟩ z H ?_
  rintro ⟨a,b⟩ M N r
  obtain ⟨s,P,rfl,H,e⟩:=I1 r
  refine T.norm [5,1,2] z<|T.fl ?_
  refine Sq<|Sr<|Mv z<|Vv (V.fa A2x z)<|Vv (V.I9 (k:=0) I7 z j.u z)<|Vv (V.P9 K8 z d)<|Vv (V.lt z z)<|Nt<|T.cH H z (fun H=>?_) fun H=>?_
  ·refine Ks<|Sq<|Bl<|Sq<|T.O1 (t:=(.vs [0,1,2,3,4,5,6] (.alt 7 (.g (.v 8 .done)) .no))) 10 0 0 z z I4 (by kernel_rfl) ?_
   refine Tv z (V.fa A2x z)<|Tv z (V.I9 (k:=0) I7 z j.u z)<|Tm z z<|bE H fun S o H=>?_
   obtain ⟨U,w,⟨W,rfl,X⟩⟩:=G6.at d o
   refine Tv z (V.ix K8 z z d (G7 o))<|Tv z (V.fa X4 z)<|Tv z (V.I9 (k:=0) H9 z w.u z)<|Tm z z<|bE H fun Y x H=>Tp z z (SX.two (XA.fr [] Lr z) (XA.fr [] Lr z)) (O.D8 z (A0U x _) z fun Z aa ab ac y=>?_) T.O9
   obtain ⟨rfl,A⟩:=y
   refine J9 _ A<|T.O3 Li<|Tv z (V.seq z z)<|T.R7 (SX.two (XA.fr [] Lr z) (XA.fr [] Lr z))<|Th<|T.cH H z (fun H=>?_) fun H=>?_
   ·exact Sr<|Ag z<|Nt<|T.ret<|Br<|Tr<|Tr<|have H:=D9 H e; Br<|Tr<|have H:=J8 H n; E1 H
   refine T.skip<|Bn<|Th<|Rg<|Mv z<|bE H fun B C H=>Vv (V.J2 z z C)<|Ag z<|Nt<|T.ag (s,B) (F4 H e)
  refine T.exit<|Te<|Te<|have H:=D9 H e; Be<|Th<|T.mt () H
 rintro _ ad ae D
 have H:=J8 D n
 refine T.norm [] z<|T.fl ?_
 exact Sr<|Ag z<|Nt<|T.ret<|E1 H
theorem B5f {h aV aG aW aA aI} (aJ:G6 (VI .u16) 1 h aV aG) (an:G6 (VI .u8) 1 h aW aA) (H:B1j aG aA = some aI):∀ L,G8 prog 12 [aV,aW] h (L) (fun v h' L'=>∃ v0_1 v0_3,v = .agg #[v0_1,v0_3]∧L' = L∧G6 F9 9 h' v0_1 aI.A8∧G6 H7 3 h' v0_3 aI.I8):=by
 intro L
 refine G8.enter func12 z z z<|Sr<|To (O.alloc B6M z z fun f=>Nt<|Sr<|To (O.alloc B6M z z fun i=>Nt<|Sq<|Sr<|Ag z<|Nt ?_))
 obtain ⟨aX,bn,bo⟩:=M5 H
 refine T.M7 (α:=(List D6)×Value×(List (List Value))) [1,4,5] z (fun ⟨N,b,q⟩=>[]) (fun ⟨N,b,q⟩=>blk i (.cells [b,qs].toArray 58)::blk f (.cells [qs,qs].toArray 58)::D5 39 9 b q::L) (fun ⟨N,b,q⟩ hh=>aX = N∧A7 F9 hh q N) ?_ ?_
 ·have H:=bn
  refine Bl<|T.U9 39 9<|have bp:A7 F9 h [] ([]:List D6):=A7.nil; G5 2 z<|T.fl ?_
  refine G5 2 z<|T.fl ?_
  refine T.M8 (α:=Nat×(List D6)×Int×Value×(List (List Value))) [0,1,4,5] z (fun ⟨X,P,S,a,c⟩=>[(6,qi S)]) (fun ⟨X,P,S,a,c⟩=>blk i (.cells [a,qs].toArray 58)::blk f (.cells [qs,qs].toArray 58)::D5 39 9 a c::L) (fun ⟨X,P,S,a,c⟩ hh=>iter (A6N aG) X (P,S) = some aX∧A7 F9 hh c P) (fun ⟨X,P,S,a,c⟩=>X) (FUEL,([]:List D6),(0:Int),(qs),[]) ⟨z,trivial⟩ z ⟨H,bp⟩ ?_
  rintro ⟨X,P,S,a,c⟩ d6 d7 ⟨bq,aK⟩
  obtain ⟨br,d8,rfl,H,aY⟩:=I1 bq
  refine T.norm [6,0,1,4,5] z<|T.fl ?_
  refine Sq<|Sq ?_
  obtain ⟨bt,bu,bw⟩:=M5 H
  refine T.M7 (α:=Bool) [0,1,4,5,6] z (fun ao=>[(23,.bool ao)]) (fun ao=>blk i (.cells [a,qs].toArray 58)::blk f (.cells [qs,qs].toArray 58)::D5 39 9 a c::L) (fun ao hh=>bt = ao) ?_ ?_
  ·have H:=bu
   refine Rg<|Mv z<|Mv z<|Vv (V.P9 B3e z aJ)<|Vv (V.lt z z)<|Mv z<|T.bH 20 H z (fun H=>?_) fun H=>?_
   ·refine Mv z<|Vv (V.lt z z)<|Vv (V.R8 z z)<|Nt<|T.mt (decide (S < (12:Int))) (O5 H)
   refine Sk<|Sk<|Vv (V.R9 z z)<|Nt<|T.mt false (O5 H)
  rintro ao d9 dh bx
  have H:=J8 bx bw
  refine T.norm [23,0,1,4,5,6] z<|T.fl ?_
  refine T.cH H z (fun H=>?_) fun H=>?_
  ·refine Ks<|Sq<|Bl<|Sr<|Mv z<|Mv z<|bE H fun dl aZ H=>?_
   obtain ⟨dv,bA,rfl⟩:=G6.at aJ aZ
   refine Vv (V.ix B3e z z aJ (G7 aZ))<|Vv (V.ld0 C5m z bA.u z)<|bE H fun bB bC H=>Vv (V.A4v underlying60 underlying3 z bC)<|Ag z<|Nt<|Sr<|Mv z<|bE H fun dz bD H=>Vv (V.B1u z z bD)<|bE H fun ea bG H=>Vv (V.A1a z z bG)<|Mv z<|bE H fun eb bI H=>Vv (V.B2e z z bI)<|bE H fun ec bJ H=>Vv (V.J2 z z bJ)<|bE H fun r bK H=>To (O.D8 z (A0U bK _) z fun ed ee ef eg bM=>?_)
   obtain ⟨rfl,bN⟩:=bM
   refine J9 _ bN<|Mv z<|bE H fun ei bO H=>Vv (V.A1a z z bO)<|bE H fun s bP H=>Vv (V.B1u z z bP)<|Mv z<|bE H fun w bS H=>Vv (V.A1a z z bS)<|Mv z<|bE H fun x bU H=>Vv (V.A1a z z bU)<|Vv (V.eq z z)<|Mv z<|bE H fun y bV H=>Vv (V.A1a z z bV)<|Vv (V.eq z z)<|Vv (V.bld (xs:=[(0,.tmp 37),(3,.tmp 40),(4,.tmp 42),(6,.tmp 45),(7,.tmp 48)]) (cs:=[_,_,_,_,_,_,_,_,_]) A3d A3f z (F3.cons z z z (F3.cons z z z (F3.cons z z z (F3.cons z z z (F3.cons z z z F3.nil))))))<|To (O.alloc A1B z z fun aq=>To (O.stF (vs:=[.string r,.string qe,.string qe,qi s,qi w,.string qe,.bool (decide (x = (0:Int))),.bool (decide (y = (0:Int))),qs]) Z7 z z (j:=0) z z z z<|T.fl ?_))
   refine Nt<|Sq<|Sr<|Mv z<|bE H fun ej bW H=>Vv (V.A1a z z bW)<|Vv (V.eq z z)<|Nt ?_
   obtain ⟨bX,bY,bZ⟩:=M5 H
   refine T.M7 (α:=ByteArray) [0,1,4,5,6,7,8] z (fun m=>[]) (fun m=>blk aq (.cells [.string r,.string m,.string qe,qi s,qi w,.string qe,.bool (decide (x = (0:Int))),.bool (decide (y = (0:Int))),qs].toArray 39)::blk i (.cells [a,qs].toArray 58)::blk f (.cells [qs,qs].toArray 58)::D5 39 9 a c::L) (fun m hh=>bX = m) ?_ ?_
   ·have H:=bY
    refine T.cH H z (fun H=>?_) fun H=>?_
    ·refine Rg<|Mv z<|bE H fun ek b0 H=>Vv (V.A1a z z b0)<|bE H fun a0 b2 H=>To (O.D8 z (A0U b2 _) z fun em en eo ep b3=>?_)
     obtain ⟨rfl,b4⟩:=b3
     refine J9 _ b4<|Vv (V.fa A8h z)<|To (O.st (vs:=[.string a0]) (k:=1) H9 z z (j:=0) z z z<|T.fl ?_)
     refine Nt<|T.mt a0 (O5 H)
    refine Ks<|T.mt qe (O5 H)
   rintro m er es b5
   have H:=J8 b5 bZ
   refine T.norm [0,1,4,5,6,7,8] z<|T.fl ?_
   refine Sq<|Sr<|Mv z<|bE H fun et b6 H=>Vv (V.A1a z z b6)<|Vv (V.gt z z)<|Nt ?_
   obtain ⟨b7,b8,b9⟩:=M5 H
   refine T.M7 (α:=ByteArray) [0,1,4,5,6,7,8] z (fun o=>[]) (fun o=>blk aq (.cells [.string r,.string m,.string o,qi s,qi w,.string qe,.bool (decide (x = (0:Int))),.bool (decide (y = (0:Int))),qs].toArray 39)::blk i (.cells [a,qs].toArray 58)::blk f (.cells [qs,qs].toArray 58)::D5 39 9 a c::L) (fun o hh=>b7 = o) ?_ ?_
   ·have H:=b8
    refine T.cH H z (fun H=>?_) fun H=>?_
    ·refine Rg<|Mv z<|bE H fun eu bh H=>Vv (V.A1a z z bh)<|bE H fun a1 bl H=>To (O.D8 z (A0U bl _) z fun ew ex ey eA bv=>?_)
     obtain ⟨rfl,bz⟩:=bv
     refine J9 _ bz<|Vv (V.fa A7T z)<|To (O.st (vs:=[.string a1]) (k:=2) H9 z z (j:=0) z z z<|T.fl ?_)
     refine Nt<|T.mt a1 (O5 H)
    refine Ks<|T.mt qe (O5 H)
   rintro o eB eC ca
   have H:=J8 ca b9
   refine T.norm [0,1,4,5,6,7,8] z<|T.fl ?_
   refine Sq<|Sr<|Mv z<|bE H fun eD cb H=>Vv (V.A1a z z cb)<|Vv (V.eq z z)<|Nt ?_
   obtain ⟨cc,cd,ce⟩:=M5 H
   refine T.M7 (α:=ByteArray) [0,1,4,5,6,7,8] z (fun p=>[]) (fun p=>blk aq (.cells [.string r,.string m,.string o,qi s,qi w,.string p,.bool (decide (x = (0:Int))),.bool (decide (y = (0:Int))),qs].toArray 39)::blk i (.cells [a,qs].toArray 58)::blk f (.cells [qs,qs].toArray 58)::D5 39 9 a c::L) (fun p hh=>cc = p) ?_ ?_
   ·have H:=cd
    refine T.cH H z (fun H=>?_) fun H=>?_
    ·refine Rg<|Mv z<|bE H fun eE cf H=>Vv (V.A1a z z cf)<|bE H fun a2 cg H=>To (O.D8 z (A0U cg _) z fun eG eI eJ eK ci=>?_)
     obtain ⟨rfl,cj⟩:=ci
     refine J9 _ cj<|Vv (V.fa A5K z)<|To (O.st (vs:=[.string a2]) (k:=5) H9 z z (j:=0) z z z<|T.fl ?_)
     refine Nt<|T.mt a2 (O5 H)
    refine Ks<|T.mt qe (O5 H)
   rintro p ck eM cm
   have H:=J8 cm ce
   refine T.norm [0,1,4,5,6,7,8] z<|T.fl ?_
   refine Sq<|Sr<|Ag z<|Nt ?_
   obtain ⟨a3,cn,co⟩:=M5 H
   refine T.M7 (α:=(List ByteArray)×Value×(List (List Value))) [0,1,4,5,6,8] z (fun ⟨Y,C,ar⟩=>[]) (fun ⟨Y,C,ar⟩=>blk aq (.cells [.string r,.string m,.string o,qi s,qi w,.string p,.bool (decide (x = (0:Int))),.bool (decide (y = (0:Int))),C].toArray 39)::blk i (.cells [a,qs].toArray 58)::blk f (.cells [qs,qs].toArray 58)::D5 39 9 a c::D5 9 1 C ar::L) (fun ⟨Y,C,ar⟩ hh=>a3 = Y∧A7 VS hh ar Y) ?_ ?_
   ·have H:=cn
    refine Bl<|T.U9 9 1<|have cp:A7 VS ck [] ([]:List ByteArray):=A7.nil; G5 4 z<|T.fl ?_
    refine G5 4 z<|T.fl ?_
    refine G5 4 z<|T.fl ?_
    refine G5 4 z<|T.fl ?_
    refine T.M8 (α:=Nat×(List ByteArray)×Int×Value×(List (List Value))) [0,1,4,5,6,7,8] z (fun ⟨Z,G,aa,I,A⟩=>[(9,qi aa)]) (fun ⟨Z,G,aa,I,A⟩=>blk aq (.cells [.string r,.string m,.string o,qi s,qi w,.string p,.bool (decide (x = (0:Int))),.bool (decide (y = (0:Int))),I].toArray 39)::blk i (.cells [a,qs].toArray 58)::blk f (.cells [qs,qs].toArray 58)::D5 39 9 a c::D5 9 1 I A::L) (fun ⟨Z,G,aa,I,A⟩ hh=>iter (A4W bB) Z (G,aa) = some a3∧A7 VS hh A G) (fun ⟨Z,G,aa,I,A⟩=>Z) (FUEL,([]:List ByteArray),(0:Int),(qs),[]) ⟨z,trivial⟩ z ⟨H,cp⟩ ?_
    rintro ⟨Z,G,aa,I,A⟩ eN eO ⟨cq,aB⟩
    obtain ⟨a4,eP,rfl,H,aM⟩:=I1 cq
    refine T.norm [9,0,1,4,5,6,7,8] z<|T.fl ?_
    refine Sq<|Sr<|Mv z<|Vv (V.lt z z)<|Nt<|T.cH H z (fun H=>?_) fun H=>?_
    ·refine Ks<|Sq<|Bl<|Sr<|Mv z<|Mv z<|bE H fun eS cr H=>Vv (V.B1u z z cr)<|bE H fun eU ct H=>Vv (V.J2 z z ct)<|bE H fun eV cu H=>Vv (V.A5x z z cu)<|bE H fun eW cw H=>Vv (V.A1a z z cw)<|Vv (V.eq z z)<|Nt<|T.cH H z (fun H=>?_) fun H=>?_
     ·refine Sr<|Vv (V.fa V5 z)<|Vv (V.ldO (k:=8) A0b z (j:=0) z z)<|Ag z<|Nt<|Rg<|Mv z<|Mv z<|bE H fun a5 cx H=>To (O.D8 z (A0U cx _) z fun eX cy eY eZ cA=>?_)
      obtain ⟨rfl,cB⟩:=cA
      refine J9 _ cB<|To (O.b1 (E:=VS) A0a B7X z z z z z fun e0 aN=>bE H fun a6 a7 H=>To (O.apX A0a A0a B7X z z z (j:=5) z (Src.row (j:=0) z) (O4.of z) (A7.ones VS.plain aN) aB.u aN a7 z fun a8 e1 e2=>have cC:A7 VS cy (A ++ [[.string a5]]) a6:=A7.ap aB.u aN a7; T.fl ?_))
      refine G5 1 z<|T.fl ?_
      refine T.drop<|Vv (V.fa V5 z)<|T.J7 0 z fun cD cE=>To (O.st (vs:=[a8]) (k:=8) A0b z z (j:=1) z cE (by (simp only [Sl.ones,cD,Bool.and_true,Bool.true_and]) <;> rfl) ?_)
      refine T.fl ?_
      refine Ni<|Bn<|Th<|Rg<|Mv z<|bE H fun cG cI H=>Vv (V.J2 z z cI)<|Ag z<|Nt<|G5 1 z<|T.fl ?_
      refine G5 4 z<|T.fl ?_
      refine G5 4 z<|T.fl ?_
      refine G5 4 z<|T.fl ?_
      refine G5 4 z<|T.fl ?_
      exact T.ag (a4,a6,cG,a8,(A ++ [[.string a5]])) ⟨(F4 H aM),cC⟩
     refine T.skip<|Bn<|Th<|Rg<|Mv z<|bE H fun cJ cK H=>Vv (V.J2 z z cK)<|Ag z<|Nt<|T.ag (a4,G,cJ,I,A) ⟨(F4 H aM),aB⟩
    refine T.exit<|Te<|Te<|have H:=D9 H aM; Be<|Th<|T.mt (G,I,A) ⟨H,aB⟩
   rintro ⟨Y,C,ar⟩ e3 e4 ⟨cM,cN⟩
   have H:=J8 cM co
   refine T.norm [0,1,4,5,6,8] z<|T.fl ?_
   refine Sr<|Vv (V.fa A2x z)<|Vv (V.ldO (k:=0) I7 z (j:=1) z z)<|Ag z<|Nt<|Rg<|Mv z<|Vv (V.A3T (j:=0) (by exact Z7) z z) ?_
   refine G5 4 z<|T.fl ?_
   refine T.J5 fun a9 e5 cO=>have cP:=A7.Z4 cO cN.u; To (O.bs K8 A1B z (e:=z) (hk:=z) (xs:=[.tmp 93]) (hv:=CO.eq (CO.cons z CO.nil)) (hw:=O4.of z) (hd:=z) fun e6=>have aO:A7 F9 a9 [[.string r,.string m,.string o,qi s,qi w,.string p,.bool (decide (x = (0:Int))),.bool (decide (y = (0:Int))),C]] ([(D6.mk r m o s w p (decide (x = (0:Int))) (decide (y = (0:Int))) Y)]:List D6):=(A7.cons ⟨C,z,cP⟩ A7.nil); bE H fun ah al H=>To (O.apX K8 K8 A1B z z z (j:=4) z (Src.row (j:=0) z) (O4.of z) (A7.ones F9.plain aO) aK.u aO al z fun av e7 e8=>have cS:A7 F9 a9 (c ++ [[.string r,.string m,.string o,qi s,qi w,.string p,.bool (decide (x = (0:Int))),.bool (decide (y = (0:Int))),C]]) ah:=A7.ap aK.u aO al; T.fl ?_))
   refine G5 1 z<|T.fl ?_
   refine T.drop<|Vv (V.fa A2x z)<|T.J7 0 z fun cU cV=>To (O.st (vs:=[av]) (k:=0) I7 z z (j:=2) z cV (by (simp only [Sl.ones,cU,Bool.and_true,Bool.true_and]) <;> rfl) ?_)
   refine T.fl ?_
   refine Ni<|Bn<|Th<|Rg<|Mv z<|bE H fun cW cX H=>Vv (V.J2 z z cX)<|Ag z<|Nt<|G5 2 z<|T.fl ?_
   refine T.drop<|G5 1 z<|T.fl ?_
   refine G5 2 z<|T.fl ?_
   refine G5 2 z<|T.fl ?_
   exact T.ag (br,ah,cW,av,(c ++ [[.string r,.string m,.string o,qi s,qi w,.string p,.bool (decide (x = (0:Int))),.bool (decide (y = (0:Int))),C]])) ⟨(F4 H aY),cS⟩
  refine T.exit<|Te<|Te<|have H:=D9 H aY; Be<|Th<|T.mt (P,a,c) ⟨H,aK.u⟩
 rintro ⟨N,b,q⟩ cY e9 ⟨cZ,aP⟩
 have H:=J8 cZ bo
 refine T.norm [1,4,5] z<|T.fl ?_
 refine Sr<|Ag z<|Nt<|Sq<|Sr<|Ag z<|Nt ?_
 obtain ⟨az,c0,c1⟩:=M5 H
 refine T.M7 (α:=(List F5)×Value×(List (List Value))) [4,5] z (fun ⟨au,ab,aw⟩=>[]) (fun ⟨au,ab,aw⟩=>blk i (.cells [b,ab].toArray 58)::blk f (.cells [qs,qs].toArray 58)::D5 39 9 b q::D5 106 3 ab aw::L) (fun ⟨au,ab,aw⟩ hh=>az = au∧A7 H7 hh aw au) ?_ ?_
 ·have H:=c0
  refine Bl<|T.U9 106 3<|have c2:A7 H7 cY [] ([]:List F5):=A7.nil; G5 3 z<|T.fl ?_
  refine G5 3 z<|T.fl ?_
  refine G5 3 z<|T.fl ?_
  refine T.M8 (α:=Nat×(List F5)×Int×Int×Value×(List (List Value))) [1,4,5] z (fun ⟨ac,J,U,W,K,M⟩=>[(12,qi U),(13,qi W)]) (fun ⟨ac,J,U,W,K,M⟩=>blk i (.cells [b,K].toArray 58)::blk f (.cells [qs,qs].toArray 58)::D5 39 9 b q::D5 106 3 K M::L) (fun ⟨ac,J,U,W,K,M⟩ hh=>iter (A7e aA N) ac (J,U,W) = some az∧A7 H7 hh M J) (fun ⟨ac,J,U,W,K,M⟩=>ac) (FUEL,([]:List F5),(0:Int),(0:Int),(qs),[]) ⟨z,z,trivial⟩ z ⟨H,c2⟩ ?_
  rintro ⟨ac,J,U,W,K,M⟩ eh el ⟨c3,ba⟩
  obtain ⟨c4,ev,rfl,H,bb⟩:=I1 c3
  refine T.norm [12,13,1,4,5] z<|T.fl ?_
  refine Sq<|Sr<|Mv z<|Vv (V.lt z z)<|Nt<|T.cH H z (fun H=>?_) fun H=>?_
  ·refine Ks<|Sq<|Bl<|Sr<|Mv z<|bE H fun c5 c6 H=>Vv (V.J2 z z c6)<|Ag z<|Nt<|T.A5G ?_
   obtain ⟨bc,c7,c8⟩:=M5 H
   refine T.M7 (α:=Int×(List F5)×Value×(List (List Value))) [1,4,5,13] z (fun ⟨ad,ae,af,ai⟩=>[(12,qi ad)]) (fun ⟨ad,ae,af,ai⟩=>blk i (.cells [b,af].toArray 58)::blk f (.cells [qs,qs].toArray 58)::D5 39 9 b q::D5 106 3 af ai::L) (fun ⟨ad,ae,af,ai⟩ hh=>bc = (ad,ae)∧A7 H7 hh ai ae) ?_ ?_
   ·have H:=c7
    refine Bl<|T.M8 (α:=Nat×(List F5)×Int×Int×Value×(List (List Value))) [1,4,5,13] z (fun ⟨aj,B,D,ak,d,n⟩=>[(12,qi D),(14,qi ak)]) (fun ⟨aj,B,D,ak,d,n⟩=>blk i (.cells [b,d].toArray 58)::blk f (.cells [qs,qs].toArray 58)::D5 39 9 b q::D5 106 3 d n::L) (fun ⟨aj,B,D,ak,d,n⟩ hh=>iter (A6Z aA N W) aj (B,D,ak) = some bc∧A7 H7 hh n B) (fun ⟨aj,B,D,ak,d,n⟩=>aj) (FUEL,J,U,c5,K,M) ⟨z,z,trivial⟩ z ⟨H,ba⟩ ?_
    rintro ⟨aj,B,D,ak,d,n⟩ ez fb ⟨c9,am⟩
    obtain ⟨aS,fc,rfl,H,ax⟩:=I1 c9
    refine T.norm [12,14,1,4,5,13] z<|T.fl ?_
    refine Sq<|Sr<|Mv z<|Vv (V.lt z z)<|Nt<|T.cH H z (fun H=>?_) fun H=>?_
    ·refine Ks<|Sq<|Bl<|Sq<|Sr<|Vv (V.A3T (j:=0) (by exact A3V) z z) ?_
     refine Mv z<|G5 2 z<|T.fl ?_
     refine bE H fun ch cl H=>To (O.D8 z (G8.A0W (val:=.bool ch) func35 z V8 fun fd fe cv=>?_) z fun ff fg fi fj cz=>?_)
     ·have da:=A7.Z4 cv aP.u
      exact B2O ⟨b,d,z,da⟩ cl _
     obtain ⟨rfl,db⟩:=cz
     refine J9 _ db<|Vv (V.not z)<|Nt<|T.cH H z (fun H=>?_) fun H=>?_
     ·refine T.exit<|Te<|T.blX z<|Te<|Te<|have H:=D9 H ax; Be<|Th<|G5 3 z<|T.fl ?_
      refine G5 1 z<|T.fl ?_
      refine G5 3 z<|T.fl ?_
      refine G5 3 z<|T.fl ?_
      exact T.mt (D,B,d,n) ⟨H,am.u⟩
     refine Ks<|Sq<|Sr<|Vv (V.A3T (j:=1) (by exact A3V) z z) ?_
     refine Mv z<|bE H fun dc dd H=>To (O.D8 z (G8.A0W (val:=.bool dc) func35 z V8 fun fk fm de=>?_) z fun fn fo fp fq df=>?_)
     ·have dg:=A7.Z4 de aP.u
      exact B2O ⟨b,d,z,dg⟩ dd _
     obtain ⟨rfl,di⟩:=df
     refine J9 _ di<|Vv (V.not z)<|Nt<|T.cH H z (fun H=>?_) fun H=>?_
     ·refine T.exit<|Te<|Be<|Th<|Rg<|Mv z<|bE H fun dj dk H=>Vv (V.J2 z z dk)<|Ag z<|Nt<|G5 3 z<|T.fl ?_
      refine G5 1 z<|T.fl ?_
      refine G5 3 z<|T.fl ?_
      refine G5 3 z<|T.fl ?_
      exact T.ag (aS,B,D,dj,d,n) ⟨(F4 H ax),am.u⟩
     refine Ks<|Sq<|Sq ?_
     obtain ⟨dm,dn,dp⟩:=M5 H
     refine T.M7 (α:=Bool) [1,4,5,12,13,14] z (fun ay=>[(126,.bool ay)]) (fun ay=>D5 39 9 b q::blk i (.cells [b,d].toArray 58)::blk f (.cells [qs,qs].toArray 58)::D5 106 3 d n::L) (fun ay hh=>dm = ay) ?_ ?_
     ·have H:=dn
      refine Rg<|Mv z<|Mv z<|Vv (V.P9 A7p z an)<|Vv (V.lt z z)<|Mv z<|T.bH 119 H z (fun H=>?_) fun H=>?_
      ·refine Mv z<|Mv z<|bE H fun fs bd H=>?_
       obtain ⟨ft,dq,rfl⟩:=G6.at an bd
       refine Vv (V.ix A7p z z an (G7 bd))<|Vv (V.ld0 A1v z dq.u z)<|bE H fun dr ds H=>Vv (V.A1a z z ds)<|Vv (V.lt z z)<|Vv (V.R8 z z)<|Nt<|T.mt (decide (dr < (2:Int))) (O5 H)
      refine Sk<|Sk<|Sk<|Sk<|Sk<|Sk<|Vv (V.R9 z z)<|Nt<|T.mt false (O5 H)
     rintro ay fu fw dt
     have H:=J8 dt dp
     refine T.norm [126,1,4,5,12,13,14] z<|T.fl ?_
     refine T.cH H z (fun H=>?_) fun H=>?_
     ·refine Sr<|Vv (V.fa A5A z)<|Vv (V.ldO (k:=1) Q4 z (j:=1) z z)<|Ag z<|Nt<|G5 3 z<|T.fl ?_
      refine G5 2 z<|T.fl ?_
      refine T.O1 (t:=(.vs [0,1,3,5,6,7,8,9,10] (.alt 2 (.g (.alt 4 (.g (.v 11 (.alt 12 (.alt 13 (.g (.v 14 (.alt 15 .done .no))) .no) .no))) .no)) .no))) 13 2 0 z z I4 (by kernel_rfl) ?_
      refine Tm z z<|Tm z z<|Tm z z<|Tm z z<|Tm z z<|bE H fun fx be H=>?_
      obtain ⟨fy,du,rfl⟩:=G6.at an be
      refine Tv z (V.ix A7p z z an (G7 be))<|Tv z (V.ld0 A1v z du.u z)<|bE H fun fA dw H=>Tv z (V.A1a z z dw)<|bE H fun aC dx H=>Tv z (V.C9d z z dx)<|bE H fun aD dy H=>Tp z z (SX.two (XA.fr [] Lr z) (XA.fr [1,1] Lr z)) (O.D8 z (A0U dy _) z fun fB fC fD fE dA=>?_) T.O9
      obtain ⟨rfl,dB⟩:=dA
      refine J9 _ dB<|T.O3 Li<|bE H fun aE dC H=>Tp z z (SX.two (XA.fr [] Lr z) (XA.fr [1,1] Lr z)) (O.D8 z (A0U dC _) z fun fG bf fI fJ dD=>?_) T.O9
      obtain ⟨rfl,dE⟩:=dD
      refine J9 _ dE<|T.O3 Li<|Tv z (V.bld (xs:=[(0,.tmp 131),(1,.tmp 133),(2,.tmp 139)]) (cs:=[_,_,_]) B2V B2Y z (F3.cons z z z (F3.cons z z z (F3.cons z z z F3.nil))))<|Tp z z (SX.two (XA.fr [] Lr z) (XA.fr [1,1] Lr z)) (O.bs X3 A6c z (e:=z) (hk:=z) (xs:=[.tmp 140]) (hv:=CO.eq (CO.cons z CO.nil)) (hw:=O4.of z) (hd:=z) fun fK=>?_) T.O9
      have aU:A7 H7 bf [[.string aD,.string aE,.int .u8 aC]] ([(F5.mk aD aE aC)]:List F5):=(A7.cons z A7.nil)
      refine bE H fun bg bi H=>Tp z z (SX.two (XA.fr [] Lr z) (XA.fr [2,2] Lr z)) (O.apX X3 X3 A6c z z z (j:=2) z (Src.row (j:=0) z) (O4.of z) (A7.ones H7.plain aU) am.u aU bi z fun bj fM fN=>?_) T.O9
      have dG:A7 H7 bf (n ++ [[.string aD,.string aE,.int .u8 aC]]) bg:=A7.ap am.u aU bi
      refine T.fl ?_
      refine G5 1 z<|T.fl ?_
      refine T.drop<|T.O3 Lr<|Tv z (V.fa A5A z)<|T.J7 0 z fun dI dJ=>Tp z z (SX.one (XA.fr [] Lr z) z) (O.st (vs:=[bj]) (k:=1) Q4 z z (j:=1) z dJ (by (simp only [Sl.ones,dI,Bool.and_true,Bool.true_and]) <;> rfl) ?_) T.O9
      refine T.fl ?_
      refine T.R7 (SX.one (XA.fr [] Lr z) z)<|Th<|Rg<|Mv z<|bE H fun dK dM H=>Vv (V.J2 z z dM)<|Ag z<|Ni<|Bn<|Th<|Rg<|Mv z<|bE H fun dN dO H=>Vv (V.J2 z z dO)<|Ag z<|Nt<|G5 1 z<|T.fl ?_
      refine G5 2 z<|T.fl ?_
      refine G5 3 z<|T.fl ?_
      refine G5 3 z<|T.fl ?_
      exact T.ag (aS,bg,dK,dN,bj,(n ++ [[.string aD,.string aE,.int .u8 aC]])) ⟨(F4 H ax),dG⟩
     refine Ks<|Rg<|Mv z<|bE H fun dP dS H=>Vv (V.J2 z z dS)<|Ag z<|Ni<|Bn<|Th<|Rg<|Mv z<|bE H fun dU dV H=>Vv (V.J2 z z dV)<|Ag z<|Nt<|G5 3 z<|T.fl ?_
     refine G5 1 z<|T.fl ?_
     refine G5 3 z<|T.fl ?_
     refine G5 3 z<|T.fl ?_
     exact T.ag (aS,B,dP,dU,d,n) ⟨(F4 H ax),am.u⟩
    refine T.exit<|Te<|Te<|have H:=D9 H ax; Be<|Th<|T.mt (D,B,d,n) ⟨H,am⟩
   rintro ⟨ad,ae,af,ai⟩ fO fP ⟨dW,dX⟩
   have H:=J8 dW c8
   refine T.norm [12,1,4,5,13] z<|T.fl ?_
   refine Bn<|Th<|Rg<|Mv z<|bE H fun dY dZ H=>Vv (V.J2 z z dZ)<|Ag z<|Nt<|T.ag (c4,ae,ad,dY,af,ai) ⟨(F4 H bb),dX⟩
  refine T.exit<|Te<|Te<|have H:=D9 H bb; Be<|Th<|T.mt (J,K,M) ⟨H,ba⟩
 rintro ⟨au,ab,aw⟩ fS fU ⟨d0,d1⟩
 have H:=J8 d0 c1
 refine T.norm [4,5] z<|T.fl ?_
 refine Sr<|Vv (V.A3T (j:=0) (by exact A3V) z z) ?_
 refine G5 2 z<|T.fl ?_
 refine T.J5 fun fV fW d2=>have bk:=A7.Z4 d2 aP.u; G5 2 z<|T.fl ?_
 refine T.J5 fun fX fY d3=>have bm:=A7.Z4 d3 d1.u; To (O.stF (vs:=[b,ab]) A3V z z (j:=1) z z (by (simp only [Sl.ones,G6.one bk,G6.one bm,Bool.and_true,Bool.true_and]) <;> rfl) z ?_)
 refine T.freeze fun fZ f0 d4=>have d5:=AtC.of d4; Nt<|T.ret<|T.drop ?_
 cases H
 exact T.rl z (RVs.cons (RV.B0y z d5 A3V) RVs.nil) ⟨_,_,z,z,bk.u,bm.u⟩
theorem C1p {h a b} (H:B9X a = some b):∀ L,G8 prog 33 [.int .i64 a] h (L) (fun v h' L'=>v = .string b∧L' = L):=by
 intro L
 refine G8.enter func33 z z z<|Sr<|Ag z<|Nt<|Sr<|Mv z<|bE H fun k d H=>Vv (V.A1a z z d)<|bE H fun m f H=>Vv (V.J2 z z f)<|bE H fun c g H=>Vv (V.A4v underlying3 underlying5 z g)<|To (O.bs A7p C6O z (e:=z) (hk:=z) (xs:=[.const (.int .u8 (116)),.tmp 6]) (hv:=CO.eq (CO.cons z (CO.cons z CO.nil))) (hw:=O4.of z) (hd:=z) fun n=>have i:A7 (VI .u8) h [[.int .u8 116],[.int .u8 c]] ([(116:Int),c]:List Int):=(A7.cons z (A7.cons z A7.nil)); Vv (V.D1C underlying22 underlying5 underlying9 z (j:=0) z (A7.C8j i))<|Ag z<|Nt<|T.ret<|T.drop ?_)
 exact E1 H
theorem A1W {h b c d} (e:C3v h b c) (H:A1D c = some d):∀ L,G8 prog 11 [.agg b.toArray] h (L) (fun v h' L'=>v = .int .i64 d∧L' = L):=by
 intro L
 obtain ⟨m,rfl⟩:=e
 refine G8.enter func11 z z z<|Sr<|To (O.Y0 z z z fun n o p a=>Ag z<|Nt<|Sq<|Sr<|Vv (V.fa A2r z)<|Vv (V.I9 (k:=1) A4u z a z)<|Nt<|Bl<|Sr<|Vv (V.eq z z)<|Ag z<|Nt<|T.cH H z (fun H=>?_) fun H=>?_)
 ·exact Sr<|Vv (V.fa A0l z)<|Vv (V.I9 (k:=2) E8 z a z)<|bE H fun q f H=>Vv (V.B1u z z f)<|Vv (V.fa A0V z)<|Vv (V.I9 (k:=3) E8 z a z)<|bE H fun r g H=>Vv (V.J2 z z g)<|Ag z<|Nt<|T.ret<|Br<|Tr<|E1 H
 refine Sr<|Vv (V.eq z z)<|Ag z<|Nt<|T.cH H z (fun H=>?_) fun H=>?_
 ·exact Sr<|Vv (V.fa A0l z)<|Vv (V.I9 (k:=2) E8 z a z)<|Vv (V.fa A0V z)<|Vv (V.I9 (k:=3) E8 z a z)<|bE H fun s i H=>Vv (V.B1u z z i)<|bE H fun t j H=>Vv (V.J2 z z j)<|Ag z<|Nt<|T.ret<|Br<|Tr<|E1 H
 exact T.skip<|Bn<|Th<|Sr<|Vv (V.fa A0l z)<|Vv (V.I9 (k:=2) E8 z a z)<|Ag z<|Nt<|T.ret<|E1 H
theorem B9w {h a1 a D} (H:A7D a1 a = some D):∀ L,G8 prog 10 [.int .i64 a1,.int .i64 a] h (L) (fun v h' L'=>∃ v0_1,v = .agg #[.string D.F8,.int .u8 D.O6,.int .i64 D.fA,.int .i64 D.fB,v0_1,.int .i64 D.fX,.int .i64 D.fY]∧L' = L∧G6 (VI .i64) 1 h' v0_1 D.A2H):=by
 intro L
 refine G8.enter func10 z z z<|Sr<|To (O.alloc A3n z z fun n=>Nt<|Sr<|Mv z<|bE H fun b bp H=>To (O.D8 z (C1p bp _) z fun dv ac dz ea bq=>?_))
 obtain ⟨rfl,br⟩:=bq
 refine J9 _ br<|Mv z<|bE H fun eb bs H=>Vv (V.A1a z z bs)<|bE H fun ec bt H=>Vv (V.J2 z z bt)<|bE H fun c bu H=>Vv (V.A4v underlying3 underlying52 z bu)<|Mv z<|Mv z<|bE H fun d bw H=>Vv (V.A1s z z bw)<|Vv (V.bld (xs:=[(0,.tmp 10),(1,.tmp 14),(5,.tmp 15),(6,.tmp 17)]) (cs:=[_,_,_,_,_,_,_]) B4c B4f z (F3.cons z z z (F3.cons z z z (F3.cons z z z (F3.cons z z z F3.nil)))))<|To (O.alloc A3n z z fun o=>To (O.stF (vs:=[.string b,.int .u8 c,qi 0,qi 0,qs,qi a,qi d]) L9 z z (j:=0) z z z z<|Nt<|Sr<|Mv z<|bE H fun ed bx H=>Vv (V.B2e z z bx)<|Ag z<|Nt<|Sq<|Sr<|Vv (V.fa A2r z)<|Vv (V.ldO (k:=1) A4u z (j:=0) z z)<|Nt<|Bl<|Sr<|Vv (V.eq z z)<|Ag z<|Nt<|T.cH H z (fun H=>?_) fun H=>?_))
 ·refine Rg<|Mv z<|bE H fun ee bA H=>Vv (V.A1a z z bA)<|bE H fun ad bB H=>Vv (V.J2 z z bB)<|Vv (V.fa A0l z)<|To (O.st (vs:=[qi ad]) (k:=2) E8 z z (j:=0) z z z<|Ni<|Bn<|Th<|Sq<|Sr<|Ag z<|Nt ?_)
  obtain ⟨a2,bC,bD⟩:=M5 H
  refine T.M7 (α:=(List Int)×Value×(List (List Value))) [4,5] z (fun ⟨ae,N,af⟩=>[]) (fun ⟨ae,N,af⟩=>blk o (.cells [.string b,.int .u8 c,qi ad,qi 0,N,qi a,qi d].toArray 54)::blk n (.cells [.string qe,.int .u8 0,qi 0,qi 0,qs,qi 0,qi 0].toArray 54)::D5 3 1 N af::L) (fun ⟨ae,N,af⟩ hh=>a2 = ae∧A7 (VI .i64) hh af ae) ?_ ?_
  ·have H:=bC
   refine Bl<|T.U9 3 1<|have bG:A7 (VI .i64) ac [] ([]:List Int):=A7.nil; G5 2 z<|T.fl ?_
   refine G5 2 z<|T.fl ?_
   refine T.M8 (α:=Nat×(List Int)×Int×Value×(List (List Value))) [1,4,5] z (fun ⟨P,w,G,p,e⟩=>[(7,qi G)]) (fun ⟨P,w,G,p,e⟩=>blk o (.cells [.string b,.int .u8 c,qi ad,qi 0,p,qi a,qi d].toArray 54)::blk n (.cells [.string qe,.int .u8 0,qi 0,qi 0,qs,qi 0,qi 0].toArray 54)::D5 3 1 p e::L) (fun ⟨P,w,G,p,e⟩ hh=>iter (B3E a b c d ad) P (w,G) = some a2∧A7 (VI .i64) hh e w) (fun ⟨P,w,G,p,e⟩=>P) (FUEL,([]:List Int),(0:Int),(qs),[]) ⟨z,trivial⟩ z ⟨H,bG⟩ ?_
   rintro ⟨P,w,G,p,e⟩ ef eg ⟨bI,ai⟩
   obtain ⟨aO,ei,rfl,H,aI⟩:=I1 bI
   refine T.norm [7,1,4,5] z<|T.fl ?_
   refine Sq<|Sr<|Mv z<|Vv (V.A3T (j:=0) (by exact L9) z z) ?_
   refine bE H fun ej bJ H=>To (O.D8 z (A1W ⟨p,z⟩ bJ _) z fun ek bK em en bM=>?_)
   obtain ⟨rfl,bN⟩:=bM
   refine J9 _ bN<|Vv (V.lt z z)<|Nt<|T.cH H z (fun H=>?_) fun H=>?_
   ·refine Ks<|Sq<|Bl<|Sr<|Mv z<|Mv z<|bE H fun eo bO H=>Vv (V.A5x z z bO)<|bE H fun ep bP H=>Vv (V.A1a z z bP)<|Vv (V.eq z z)<|Mv z<|T.bH 74 H z (fun H=>?_) fun H=>?_
    ·refine Mv z<|bE H fun er bS H=>Vv (V.A1a z z bS)<|Vv (V.gt z z)<|Vv (V.R8 z z)<|Nt<|T.cH H z (fun H=>?_) fun H=>?_
     ·refine Sr<|Vv (V.fa X6 z)<|Vv (V.ldO (k:=4) E5 z (j:=0) z z)<|Ag z<|Nt<|Rg<|Mv z<|Mv z<|To (O.b1 (E:=VI .i64) C9 M9 z z z z z fun es aP=>bE H fun a3 a4 H=>To (O.apX C9 C9 M9 z z z (j:=3) z (Src.row (j:=0) z) (O4.of z) (A7.ones VI.plain aP) ai.u aP a4 z fun a5 et eu=>have bU:A7 (VI .i64) bK (e ++ [[qi G]]) a3:=A7.ap ai.u aP a4; T.fl ?_))
      refine G5 1 z<|T.fl ?_
      refine T.drop<|Vv (V.fa X6 z)<|T.J7 0 z fun bV bW=>To (O.st (vs:=[a5]) (k:=4) E5 z z (j:=1) z bW (by (simp only [Sl.ones,bV,Bool.and_true,Bool.true_and]) <;> rfl) ?_)
      refine T.fl ?_
      refine Ni<|Bn<|Th<|Rg<|Mv z<|bE H fun bX bY H=>Vv (V.J2 z z bY)<|Ag z<|Nt<|G5 1 z<|T.fl ?_
      refine G5 2 z<|T.fl ?_
      refine G5 2 z<|T.fl ?_
      exact T.ag (aO,a3,bX,a5,(e ++ [[qi G]])) ⟨(F4 H aI),bU⟩
     refine T.skip<|Bn<|Th<|Rg<|Mv z<|bE H fun bZ b0 H=>Vv (V.J2 z z b0)<|Ag z<|Nt<|T.ag (aO,w,bZ,p,e) ⟨(F4 H aI),ai.u⟩
    refine Sk<|Sk<|Sk<|Vv (V.R9 z z)<|Nt<|Cf z<|T.skip<|Bn<|Th<|Rg<|Mv z<|bE H fun b2 b3 H=>Vv (V.J2 z z b3)<|Ag z<|Nt<|T.ag (aO,w,b2,p,e) ⟨(F4 H aI),ai.u⟩
   refine T.exit<|Te<|Te<|have H:=D9 H aI; Be<|Th<|T.mt (w,p,e) ⟨H,ai.u⟩
  rintro ⟨ae,N,af⟩ ew ex ⟨b4,b5⟩
  have H:=J8 b4 bD
  refine T.norm [4,5] z<|T.fl ?_
  refine Sr<|Vv (V.A3T (j:=0) (by exact L9) z z) ?_
  refine G5 2 z<|T.fl ?_
  refine T.J5 fun ey eA b6=>have a6:=A7.Z4 b6 b5.u; To (O.stF (vs:=[.string b,.int .u8 c,qi ad,qi 0,N,qi a,qi d]) L9 z z (j:=1) z z (by (simp only [Sl.ones,G6.one a6,Bool.and_true,Bool.true_and]) <;> rfl) z ?_)
  refine T.freeze fun eB eC b7=>have b8:=AtC.of b7; Nt<|T.ret<|T.drop ?_
  cases H
  exact T.rl z (RVs.cons (RV.B0y z b8 L9) RVs.nil) ⟨_,z,z,a6.u⟩
 refine Sr<|Vv (V.eq z z)<|Ag z<|Nt<|T.cH H z (fun H=>?_) fun H=>?_
 ·refine Rg<|Mv z<|bE H fun eD b9 H=>Vv (V.A1a z z b9)<|bE H fun aj bh H=>Vv (V.J2 z z bh)<|Mv z<|bE H fun eE bl H=>Vv (V.B2e z z bl)<|bE H fun ak bv H=>Vv (V.A1a z z bv)<|Vv (V.fa A0l z)<|To (O.st (vs:=[qi aj]) (k:=2) E8 z z (j:=0) z z z<|Vv (V.fa A0V z)<|To (O.st (vs:=[qi ak]) (k:=3) E8 z z (j:=0) z z z<|Ni<|Bn<|Th<|Sq<|Sq<|T.norm [1,4,5] z<|T.fl ?_))
  refine Rg<|Ag z<|Nt ?_
  obtain ⟨a7,bz,ca⟩:=M5 H
  refine T.M7 (α:=(List Int)×Value×(List (List Value))) [4,5] z (fun ⟨am,S,an⟩=>[]) (fun ⟨am,S,an⟩=>blk o (.cells [.string b,.int .u8 c,qi aj,qi ak,S,qi a,qi d].toArray 54)::blk n (.cells [.string qe,.int .u8 0,qi 0,qi 0,qs,qi 0,qi 0].toArray 54)::D5 3 1 S an::L) (fun ⟨am,S,an⟩ hh=>a7 = am∧A7 (VI .i64) hh an am) ?_ ?_
  ·have H:=bz
   refine Bl<|T.U9 3 1<|have cb:A7 (VI .i64) ac [] ([]:List Int):=A7.nil; G5 2 z<|T.fl ?_
   refine G5 2 z<|T.fl ?_
   refine T.M8 (α:=Nat×(List Int)×Int×Value×(List (List Value))) [1,4,5] z (fun ⟨U,x,I,q,f⟩=>[(7,qi I)]) (fun ⟨U,x,I,q,f⟩=>blk o (.cells [.string b,.int .u8 c,qi aj,qi ak,q,qi a,qi d].toArray 54)::blk n (.cells [.string qe,.int .u8 0,qi 0,qi 0,qs,qi 0,qi 0].toArray 54)::D5 3 1 q f::L) (fun ⟨U,x,I,q,f⟩ hh=>iter (B4a a b c d aj ak) U (x,I) = some a7∧A7 (VI .i64) hh f x) (fun ⟨U,x,I,q,f⟩=>U) (FUEL,([]:List Int),(0:Int),(qs),[]) ⟨z,trivial⟩ z ⟨H,cb⟩ ?_
   rintro ⟨U,x,I,q,f⟩ eG eI ⟨cc,ao⟩
   obtain ⟨aS,eJ,rfl,H,aJ⟩:=I1 cc
   refine T.norm [7,1,4,5] z<|T.fl ?_
   refine Sq<|Sr<|Mv z<|Vv (V.A3T (j:=0) (by exact L9) z z) ?_
   refine bE H fun eK cd H=>To (O.D8 z (A1W ⟨q,z⟩ cd _) z fun eM ce eN eO cf=>?_)
   obtain ⟨rfl,cg⟩:=cf
   refine J9 _ cg<|Vv (V.lt z z)<|Nt<|T.cH H z (fun H=>?_) fun H=>?_
   ·refine Ks<|Sq<|Bl<|Sr<|Mv z<|Mv z<|bE H fun eP ci H=>Vv (V.A5x z z ci)<|bE H fun eS cj H=>Vv (V.A1a z z cj)<|Vv (V.eq z z)<|Mv z<|T.bH 74 H z (fun H=>?_) fun H=>?_
    ·refine Mv z<|bE H fun eU ck H=>Vv (V.A1a z z ck)<|Vv (V.gt z z)<|Vv (V.R8 z z)<|Nt<|T.cH H z (fun H=>?_) fun H=>?_
     ·refine Sr<|Vv (V.fa X6 z)<|Vv (V.ldO (k:=4) E5 z (j:=0) z z)<|Ag z<|Nt<|Rg<|Mv z<|Mv z<|To (O.b1 (E:=VI .i64) C9 M9 z z z z z fun eV aU=>bE H fun a8 a9 H=>To (O.apX C9 C9 M9 z z z (j:=3) z (Src.row (j:=0) z) (O4.of z) (A7.ones VI.plain aU) ao.u aU a9 z fun ah eW eX=>have cm:A7 (VI .i64) ce (f ++ [[qi I]]) a8:=A7.ap ao.u aU a9; T.fl ?_))
      refine G5 1 z<|T.fl ?_
      refine T.drop<|Vv (V.fa X6 z)<|T.J7 0 z fun cn co=>To (O.st (vs:=[ah]) (k:=4) E5 z z (j:=1) z co (by (simp only [Sl.ones,cn,Bool.and_true,Bool.true_and]) <;> rfl) ?_)
      refine T.fl ?_
      refine Ni<|Bn<|Th<|Rg<|Mv z<|bE H fun cp cq H=>Vv (V.J2 z z cq)<|Ag z<|Nt<|G5 1 z<|T.fl ?_
      refine G5 2 z<|T.fl ?_
      refine G5 2 z<|T.fl ?_
      exact T.ag (aS,a8,cp,ah,(f ++ [[qi I]])) ⟨(F4 H aJ),cm⟩
     refine T.skip<|Bn<|Th<|Rg<|Mv z<|bE H fun cr ct H=>Vv (V.J2 z z ct)<|Ag z<|Nt<|T.ag (aS,x,cr,q,f) ⟨(F4 H aJ),ao.u⟩
    refine Sk<|Sk<|Sk<|Vv (V.R9 z z)<|Nt<|Cf z<|T.skip<|Bn<|Th<|Rg<|Mv z<|bE H fun cu cw H=>Vv (V.J2 z z cw)<|Ag z<|Nt<|T.ag (aS,x,cu,q,f) ⟨(F4 H aJ),ao.u⟩
   refine T.exit<|Te<|Te<|have H:=D9 H aJ; Be<|Th<|T.mt (x,q,f) ⟨H,ao.u⟩
  rintro ⟨am,S,an⟩ eY eZ ⟨cx,cy⟩
  have H:=J8 cx ca
  refine T.norm [4,5] z<|T.fl ?_
  refine Sr<|Vv (V.A3T (j:=0) (by exact L9) z z) ?_
  refine G5 2 z<|T.fl ?_
  refine T.J5 fun e0 e1 cA=>have al:=A7.Z4 cA cy.u; To (O.stF (vs:=[.string b,.int .u8 c,qi aj,qi ak,S,qi a,qi d]) L9 z z (j:=1) z z (by (simp only [Sl.ones,G6.one al,Bool.and_true,Bool.true_and]) <;> rfl) z ?_)
  refine T.freeze fun e2 e3 cB=>have cC:=AtC.of cB; Nt<|T.ret<|T.drop ?_
  cases H
  exact T.rl z (RVs.cons (RV.B0y z cC L9) RVs.nil) ⟨_,z,z,al.u⟩
 refine Sr<|Vv (V.eq z z)<|Ag z<|Nt<|T.cH H z (fun H=>?_) fun H=>?_
 ·refine Rg<|Mv z<|bE H fun e4 cD H=>Vv (V.A1a z z cD)<|bE H fun aq cE H=>Vv (V.J2 z z cE)<|Mv z<|bE H fun e5 cG H=>Vv (V.B2e z z cG)<|bE H fun e6 cI H=>Vv (V.A1a z z cI)<|bE H fun ar cJ H=>Vv (V.J2 z z cJ)<|Vv (V.fa A0l z)<|To (O.st (vs:=[qi aq]) (k:=2) E8 z z (j:=0) z z z<|Vv (V.fa A0V z)<|To (O.st (vs:=[qi ar]) (k:=3) E8 z z (j:=0) z z z<|Ni<|Bn<|Th<|Sq<|Sq<|T.norm [1,4,5] z<|T.fl ?_))
  refine Rg<|Ag z<|Nt ?_
  obtain ⟨av,cK,cM⟩:=M5 H
  refine T.M7 (α:=(List Int)×Value×(List (List Value))) [4,5] z (fun ⟨au,W,aw⟩=>[]) (fun ⟨au,W,aw⟩=>blk o (.cells [.string b,.int .u8 c,qi aq,qi ar,W,qi a,qi d].toArray 54)::blk n (.cells [.string qe,.int .u8 0,qi 0,qi 0,qs,qi 0,qi 0].toArray 54)::D5 3 1 W aw::L) (fun ⟨au,W,aw⟩ hh=>av = au∧A7 (VI .i64) hh aw au) ?_ ?_
  ·have H:=cK
   refine Bl<|T.U9 3 1<|have cN:A7 (VI .i64) ac [] ([]:List Int):=A7.nil; G5 2 z<|T.fl ?_
   refine G5 2 z<|T.fl ?_
   refine T.M8 (α:=Nat×(List Int)×Int×Value×(List (List Value))) [1,4,5] z (fun ⟨X,y,J,r,g⟩=>[(7,qi J)]) (fun ⟨X,y,J,r,g⟩=>blk o (.cells [.string b,.int .u8 c,qi aq,qi ar,r,qi a,qi d].toArray 54)::blk n (.cells [.string qe,.int .u8 0,qi 0,qi 0,qs,qi 0,qi 0].toArray 54)::D5 3 1 r g::L) (fun ⟨X,y,J,r,g⟩ hh=>iter (B2W a b c d aq ar) X (y,J) = some av∧A7 (VI .i64) hh g y) (fun ⟨X,y,J,r,g⟩=>X) (FUEL,([]:List Int),(0:Int),(qs),[]) ⟨z,trivial⟩ z ⟨H,cN⟩ ?_
   rintro ⟨X,y,J,r,g⟩ e7 e8 ⟨cO,ax⟩
   obtain ⟨aV,e9,rfl,H,aK⟩:=I1 cO
   refine T.norm [7,1,4,5] z<|T.fl ?_
   refine Sq<|Sr<|Mv z<|Vv (V.A3T (j:=0) (by exact L9) z z) ?_
   refine bE H fun eh cP H=>To (O.D8 z (A1W ⟨r,z⟩ cP _) z fun el cS ev ez cU=>?_)
   obtain ⟨rfl,cV⟩:=cU
   refine J9 _ cV<|Vv (V.lt z z)<|Nt<|T.cH H z (fun H=>?_) fun H=>?_
   ·refine Ks<|Sq<|Bl<|Sr<|Mv z<|Mv z<|bE H fun fb cW H=>Vv (V.A5x z z cW)<|bE H fun fc cX H=>Vv (V.A1a z z cX)<|Vv (V.eq z z)<|Mv z<|T.bH 74 H z (fun H=>?_) fun H=>?_
    ·refine Mv z<|bE H fun fd cY H=>Vv (V.A1a z z cY)<|Vv (V.gt z z)<|Vv (V.R8 z z)<|Nt<|T.cH H z (fun H=>?_) fun H=>?_
     ·refine Sr<|Vv (V.fa X6 z)<|Vv (V.ldO (k:=4) E5 z (j:=0) z z)<|Ag z<|Nt<|Rg<|Mv z<|Mv z<|To (O.b1 (E:=VI .i64) C9 M9 z z z z z fun fe aW=>bE H fun az ba H=>To (O.apX C9 C9 M9 z z z (j:=3) z (Src.row (j:=0) z) (O4.of z) (A7.ones VI.plain aW) ax.u aW ba z fun bb ff fg=>have cZ:A7 (VI .i64) cS (g ++ [[qi J]]) az:=A7.ap ax.u aW ba; T.fl ?_))
      refine G5 1 z<|T.fl ?_
      refine T.drop<|Vv (V.fa X6 z)<|T.J7 0 z fun c0 c1=>To (O.st (vs:=[bb]) (k:=4) E5 z z (j:=1) z c1 (by (simp only [Sl.ones,c0,Bool.and_true,Bool.true_and]) <;> rfl) ?_)
      refine T.fl ?_
      refine Ni<|Bn<|Th<|Rg<|Mv z<|bE H fun c2 c3 H=>Vv (V.J2 z z c3)<|Ag z<|Nt<|G5 1 z<|T.fl ?_
      refine G5 2 z<|T.fl ?_
      refine G5 2 z<|T.fl ?_
      exact T.ag (aV,az,c2,bb,(g ++ [[qi J]])) ⟨(F4 H aK),cZ⟩
     refine T.skip<|Bn<|Th<|Rg<|Mv z<|bE H fun c4 c5 H=>Vv (V.J2 z z c5)<|Ag z<|Nt<|T.ag (aV,y,c4,r,g) ⟨(F4 H aK),ax.u⟩
    refine Sk<|Sk<|Sk<|Vv (V.R9 z z)<|Nt<|Cf z<|T.skip<|Bn<|Th<|Rg<|Mv z<|bE H fun c6 c7 H=>Vv (V.J2 z z c7)<|Ag z<|Nt<|T.ag (aV,y,c6,r,g) ⟨(F4 H aK),ax.u⟩
   refine T.exit<|Te<|Te<|have H:=D9 H aK; Be<|Th<|T.mt (y,r,g) ⟨H,ax.u⟩
  rintro ⟨au,W,aw⟩ fi fj ⟨c8,c9⟩
  have H:=J8 c8 cM
  refine T.norm [4,5] z<|T.fl ?_
  refine Sr<|Vv (V.A3T (j:=0) (by exact L9) z z) ?_
  refine G5 2 z<|T.fl ?_
  refine T.J5 fun fk fm ch=>have bc:=A7.Z4 ch c9.u; To (O.stF (vs:=[.string b,.int .u8 c,qi aq,qi ar,W,qi a,qi d]) L9 z z (j:=1) z z (by (simp only [Sl.ones,G6.one bc,Bool.and_true,Bool.true_and]) <;> rfl) z ?_)
  refine T.freeze fun fn fo cl=>have cv:=AtC.of cl; Nt<|T.ret<|T.drop ?_
  cases H
  exact T.rl z (RVs.cons (RV.B0y z cv L9) RVs.nil) ⟨_,z,z,bc.u⟩
 refine Sr<|Vv (V.eq z z)<|Ag z<|Nt<|T.cH H z (fun H=>?_) fun H=>?_
 ·refine Sr<|Mv z<|bE H fun fp cz H=>Vv (V.A1a z z cz)<|bE H fun A da H=>Vv (V.J2 z z da)<|Vv (V.fa A0l z)<|To (O.st (vs:=[qi A]) (k:=2) E8 z z (j:=0) z z z<|Nt<|T.norm [1,4,5,6] z<|T.fl ?_)
  refine Rg<|Vv (V.fa A0l z)<|Vv (V.ldO (k:=2) E8 z (j:=0) z z)<|Mv z<|bE H fun fq db H=>Vv (V.B2e z z db)<|bE H fun ay dc H=>Vv (V.A1a z z dc)<|Vv (V.min2 z z)<|Vv (V.fa A0V z)<|To (O.st (vs:=[qi (min A ay)]) (k:=3) E8 z z (j:=0) z z z<|Ni<|Bn<|Th<|Sq<|Sr<|Ag z<|Nt ?_)
  obtain ⟨bd,dd,de⟩:=M5 H
  refine T.M7 (α:=(List Int)×Value×(List (List Value))) [4,5] z (fun ⟨aA,Y,aB⟩=>[]) (fun ⟨aA,Y,aB⟩=>blk o (.cells [.string b,.int .u8 c,qi A,qi (min A ay),Y,qi a,qi d].toArray 54)::blk n (.cells [.string qe,.int .u8 0,qi 0,qi 0,qs,qi 0,qi 0].toArray 54)::D5 3 1 Y aB::L) (fun ⟨aA,Y,aB⟩ hh=>bd = aA∧A7 (VI .i64) hh aB aA) ?_ ?_
  ·have H:=dd
   refine Bl<|T.U9 3 1<|have df:A7 (VI .i64) ac [] ([]:List Int):=A7.nil; G5 2 z<|T.fl ?_
   refine G5 2 z<|T.fl ?_
   refine T.M8 (α:=Nat×(List Int)×Int×Value×(List (List Value))) [1,4,5] z (fun ⟨Z,B,K,s,i⟩=>[(7,qi K)]) (fun ⟨Z,B,K,s,i⟩=>blk o (.cells [.string b,.int .u8 c,qi A,qi (min A ay),s,qi a,qi d].toArray 54)::blk n (.cells [.string qe,.int .u8 0,qi 0,qi 0,qs,qi 0,qi 0].toArray 54)::D5 3 1 s i::L) (fun ⟨Z,B,K,s,i⟩ hh=>iter (B3G a b c d A ay) Z (B,K) = some bd∧A7 (VI .i64) hh i B) (fun ⟨Z,B,K,s,i⟩=>Z) (FUEL,([]:List Int),(0:Int),(qs),[]) ⟨z,trivial⟩ z ⟨H,df⟩ ?_
   rintro ⟨Z,B,K,s,i⟩ fr fs ⟨dg,aC⟩
   obtain ⟨aX,ft,rfl,H,aM⟩:=I1 dg
   refine T.norm [7,1,4,5] z<|T.fl ?_
   refine Sq<|Sr<|Mv z<|Vv (V.A3T (j:=0) (by exact L9) z z) ?_
   refine bE H fun fu di H=>To (O.D8 z (A1W ⟨s,z⟩ di _) z fun fw dj fx fy dk=>?_)
   obtain ⟨rfl,dm⟩:=dk
   refine J9 _ dm<|Vv (V.lt z z)<|Nt<|T.cH H z (fun H=>?_) fun H=>?_
   ·refine Ks<|Sq<|Bl<|Sr<|Mv z<|Mv z<|bE H fun fC dn H=>Vv (V.A5x z z dn)<|bE H fun fD dp H=>Vv (V.A1a z z dp)<|Vv (V.eq z z)<|Mv z<|T.bH 74 H z (fun H=>?_) fun H=>?_
    ·refine Mv z<|bE H fun fE dq H=>Vv (V.A1a z z dq)<|Vv (V.gt z z)<|Vv (V.R8 z z)<|Nt<|T.cH H z (fun H=>?_) fun H=>?_
     ·refine Sr<|Vv (V.fa X6 z)<|Vv (V.ldO (k:=4) E5 z (j:=0) z z)<|Ag z<|Nt<|Rg<|Mv z<|Mv z<|To (O.b1 (E:=VI .i64) C9 M9 z z z z z fun fG aY=>bE H fun be bf H=>To (O.apX C9 C9 M9 z z z (j:=3) z (Src.row (j:=0) z) (O4.of z) (A7.ones VI.plain aY) aC.u aY bf z fun bg fI fJ=>have dr:A7 (VI .i64) dj (i ++ [[qi K]]) be:=A7.ap aC.u aY bf; T.fl ?_))
      refine G5 1 z<|T.fl ?_
      refine T.drop<|Vv (V.fa X6 z)<|T.J7 0 z fun ds dt=>To (O.st (vs:=[bg]) (k:=4) E5 z z (j:=1) z dt (by (simp only [Sl.ones,ds,Bool.and_true,Bool.true_and]) <;> rfl) ?_)
      refine T.fl ?_
      refine Ni<|Bn<|Th<|Rg<|Mv z<|bE H fun du dw H=>Vv (V.J2 z z dw)<|Ag z<|Nt<|G5 1 z<|T.fl ?_
      refine G5 2 z<|T.fl ?_
      refine G5 2 z<|T.fl ?_
      exact T.ag (aX,be,du,bg,(i ++ [[qi K]])) ⟨(F4 H aM),dr⟩
     refine T.skip<|Bn<|Th<|Rg<|Mv z<|bE H fun dx dy H=>Vv (V.J2 z z dy)<|Ag z<|Nt<|T.ag (aX,B,dx,s,i) ⟨(F4 H aM),aC.u⟩
    refine Sk<|Sk<|Sk<|Vv (V.R9 z z)<|Nt<|Cf z<|T.skip<|Bn<|Th<|Rg<|Mv z<|bE H fun dA dB H=>Vv (V.J2 z z dB)<|Ag z<|Nt<|T.ag (aX,B,dA,s,i) ⟨(F4 H aM),aC.u⟩
   refine T.exit<|Te<|Te<|have H:=D9 H aM; Be<|Th<|T.mt (B,s,i) ⟨H,aC.u⟩
  rintro ⟨aA,Y,aB⟩ fK fM ⟨dC,dD⟩
  have H:=J8 dC de
  refine T.norm [4,5] z<|T.fl ?_
  refine Sr<|Vv (V.A3T (j:=0) (by exact L9) z z) ?_
  refine G5 2 z<|T.fl ?_
  refine T.J5 fun fN fO dE=>have bi:=A7.Z4 dE dD.u; To (O.stF (vs:=[.string b,.int .u8 c,qi A,qi (min A ay),Y,qi a,qi d]) L9 z z (j:=1) z z (by (simp only [Sl.ones,G6.one bi,Bool.and_true,Bool.true_and]) <;> rfl) z ?_)
  refine T.freeze fun fP fS dG=>have dI:=AtC.of dG; Nt<|T.ret<|T.drop ?_
  cases H
  exact T.rl z (RVs.cons (RV.B0y z dI L9) RVs.nil) ⟨_,z,z,bi.u⟩
 refine T.skip<|Bn<|Th<|Sq<|Sr<|Ag z<|Nt ?_
 obtain ⟨bj,dJ,dK⟩:=M5 H
 refine T.M7 (α:=(List Int)×Value×(List (List Value))) [4,5] z (fun ⟨aD,aa,aE⟩=>[]) (fun ⟨aD,aa,aE⟩=>blk o (.cells [.string b,.int .u8 c,qi 0,qi 0,aa,qi a,qi d].toArray 54)::blk n (.cells [.string qe,.int .u8 0,qi 0,qi 0,qs,qi 0,qi 0].toArray 54)::D5 3 1 aa aE::L) (fun ⟨aD,aa,aE⟩ hh=>bj = aD∧A7 (VI .i64) hh aE aD) ?_ ?_
 ·have H:=dJ
  refine Bl<|T.U9 3 1<|have dM:A7 (VI .i64) ac [] ([]:List Int):=A7.nil; G5 2 z<|T.fl ?_
  refine G5 2 z<|T.fl ?_
  refine T.M8 (α:=Nat×(List Int)×Int×Value×(List (List Value))) [1,4,5] z (fun ⟨ab,C,M,t,m⟩=>[(7,qi M)]) (fun ⟨ab,C,M,t,m⟩=>blk o (.cells [.string b,.int .u8 c,qi 0,qi 0,t,qi a,qi d].toArray 54)::blk n (.cells [.string qe,.int .u8 0,qi 0,qi 0,qs,qi 0,qi 0].toArray 54)::D5 3 1 t m::L) (fun ⟨ab,C,M,t,m⟩ hh=>iter (B3h a b c d) ab (C,M) = some bj∧A7 (VI .i64) hh m C) (fun ⟨ab,C,M,t,m⟩=>ab) (FUEL,([]:List Int),(0:Int),(qs),[]) ⟨z,trivial⟩ z ⟨H,dM⟩ ?_
  rintro ⟨ab,C,M,t,m⟩ fU fV ⟨dN,aG⟩
  obtain ⟨aZ,fW,rfl,H,aN⟩:=I1 dN
  refine T.norm [7,1,4,5] z<|T.fl ?_
  refine Sq<|Sr<|Mv z<|Vv (V.A3T (j:=0) (by exact L9) z z) ?_
  refine bE H fun fZ dO H=>To (O.D8 z (A1W ⟨t,z⟩ dO _) z fun f0 dP f1 f2 dS=>?_)
  obtain ⟨rfl,dU⟩:=dS
  refine J9 _ dU<|Vv (V.lt z z)<|Nt<|T.cH H z (fun H=>?_) fun H=>?_
  ·refine Ks<|Sq<|Bl<|Sr<|Mv z<|Mv z<|bE H fun f3 dV H=>Vv (V.A5x z z dV)<|bE H fun f4 dW H=>Vv (V.A1a z z dW)<|Vv (V.eq z z)<|Mv z<|T.bH 74 H z (fun H=>?_) fun H=>?_
   ·refine Mv z<|bE H fun f5 dX H=>Vv (V.A1a z z dX)<|Vv (V.gt z z)<|Vv (V.R8 z z)<|Nt<|T.cH H z (fun H=>?_) fun H=>?_
    ·refine Sr<|Vv (V.fa X6 z)<|Vv (V.ldO (k:=4) E5 z (j:=0) z z)<|Ag z<|Nt<|Rg<|Mv z<|Mv z<|To (O.b1 (E:=VI .i64) C9 M9 z z z z z fun f6 a0=>bE H fun bk bm H=>To (O.apX C9 C9 M9 z z z (j:=3) z (Src.row (j:=0) z) (O4.of z) (A7.ones VI.plain a0) aG.u a0 bm z fun bn f7 f8=>have dY:A7 (VI .i64) dP (m ++ [[qi M]]) bk:=A7.ap aG.u a0 bm; T.fl ?_))
     refine G5 1 z<|T.fl ?_
     refine T.drop<|Vv (V.fa X6 z)<|T.J7 0 z fun dZ d0=>To (O.st (vs:=[bn]) (k:=4) E5 z z (j:=1) z d0 (by (simp only [Sl.ones,dZ,Bool.and_true,Bool.true_and]) <;> rfl) ?_)
     refine T.fl ?_
     refine Ni<|Bn<|Th<|Rg<|Mv z<|bE H fun d1 d2 H=>Vv (V.J2 z z d2)<|Ag z<|Nt<|G5 1 z<|T.fl ?_
     refine G5 2 z<|T.fl ?_
     refine G5 2 z<|T.fl ?_
     exact T.ag (aZ,bk,d1,bn,(m ++ [[qi M]])) ⟨(F4 H aN),dY⟩
    refine T.skip<|Bn<|Th<|Rg<|Mv z<|bE H fun d3 d4 H=>Vv (V.J2 z z d4)<|Ag z<|Nt<|T.ag (aZ,C,d3,t,m) ⟨(F4 H aN),aG.u⟩
   refine Sk<|Sk<|Sk<|Vv (V.R9 z z)<|Nt<|Cf z<|T.skip<|Bn<|Th<|Rg<|Mv z<|bE H fun d5 d6 H=>Vv (V.J2 z z d6)<|Ag z<|Nt<|T.ag (aZ,C,d5,t,m) ⟨(F4 H aN),aG.u⟩
  refine T.exit<|Te<|Te<|have H:=D9 H aN; Be<|Th<|T.mt (C,t,m) ⟨H,aG.u⟩
 rintro ⟨aD,aa,aE⟩ f9 fh ⟨d7,d8⟩
 have H:=J8 d7 dK
 refine T.norm [4,5] z<|T.fl ?_
 refine Sr<|Vv (V.A3T (j:=0) (by exact L9) z z) ?_
 refine G5 2 z<|T.fl ?_
 refine T.J5 fun fv fz d9=>have bo:=A7.Z4 d9 d8.u; To (O.stF (vs:=[.string b,.int .u8 c,qi 0,qi 0,aa,qi a,qi d]) L9 z z (j:=1) z z (by (simp only [Sl.ones,G6.one bo,Bool.and_true,Bool.true_and]) <;> rfl) z ?_)
 refine T.freeze fun ga gb dh=>have dl:=AtC.of dh; Nt<|T.ret<|T.drop ?_
 cases H
 exact T.rl z (RVs.cons (RV.B0y z dl L9) RVs.nil) ⟨_,z,z,bo.u⟩
theorem B3v {h G p1 I m J} (aj:C0f h G p1) (H:A9l p1 I = some (m,J)):∀ L,G8 prog 13 [.agg G.toArray,.int .i64 I] h (L) (fun v h' L'=>v = .tuple #[.agg #[.int .u8 m.H8,.int .i64 m.Q3,.string m.fA,.string m.fB,.string m.R6,.int .i64 m.fN],.bool J]∧L' = L):=by
 intro L
 obtain ⟨bN,bO,bP,bS,bU,rfl,d,e,bV,bW⟩:=aj
 refine G8.enter func13 z z z<|Sr<|To (O.Y0 z z z fun bX bY bZ c=>To (O.alloc A1x z z fun f=>Ag z<|Nt<|Sr<|Mv z<|bE H fun b0 ak H=>Vv (V.A1a z z ak)<|bE H fun b1 am H=>Vv (V.J2 z z am)<|bE H fun a an H=>Vv (V.A4v underlying3 underlying40 z an)<|Vv (V.bld (xs:=[(0,.tmp 16)]) (cs:=[_,_,_,_,_,_]) A7k A7A z (F3.cons z z z F3.nil))<|To (O.alloc A1x z z fun i=>To (O.stF (vs:=[.int .u8 a,qi 0,.string qe,.string qe,.string qe,qi 0]) K7 z z (j:=0) z z z z<|Nt<|Sr<|Mv z<|bE H fun b2 ao H=>Vv (V.B2e z z ao)<|Ag z<|Nt<|Sq<|Sr<|Mv z<|bE H fun b3 ap H=>Vv (V.A1a z z ap)<|Vv (V.gt z z)<|Nt ?_))))
 obtain ⟨aq,ar,au⟩:=M5 H
 refine T.M7 (α:=Int) [1,2,4,6] z (fun b=>[]) (fun b=>blk i (.cells [.int .u8 a,qi b,.string qe,.string qe,.string qe,qi 0].toArray 42)::blk f (.cells [.int .u8 0,qi 0,.string qe,.string qe,.string qe,qi 0].toArray 42)::L) (fun b hh=>aq = b) ?_ ?_
 ·have H:=ar
  refine T.cH H z (fun H=>?_) fun H=>?_
  ·refine Rg<|Mv z<|bE H fun b4 aw H=>Vv (V.A1a z z aw)<|bE H fun K ax H=>Vv (V.J2 z z ax)<|Vv (V.fa A1Q z)<|To (O.st (vs:=[qi K]) (k:=1) E8 z z (j:=0) z z z<|Nt<|T.mt K (O5 H))
  refine Ks<|T.mt (0:Int) (O5 H)
 rintro b b5 b6 ay
 have H:=J8 ay au
 refine T.norm [1,2,4,6] z<|T.fl ?_
 refine Sr<|Mv z<|bE H fun b7 aA H=>Vv (V.B2e z z aA)<|Ag z<|Nt<|Sq<|T.O1 (t:=(.vs [0,1,2,3,4,5] (.alt 6 (.alt 7 .done .no) .no))) 9 0 0 z z I4 (by kernel_rfl) ?_
 refine Tv z (V.fa K3 z)<|Tv z (V.I9 (k:=1) I7 z c.u z)<|Tv z (V.P9 K8 z e)<|Tv z (V.fa J4 z)<|Tv z (V.I9 (k:=0) M0 z c.u z)<|Tv z (V.P9 N9 z d)<|Ts z z (SX.two (XA.fr [] Lr z) (XA.fr [] Lr z)) (V.asg z) z ?_ T.O9
 refine Ts z z (SX.two (XA.fr [] Lr z) (XA.fr [] Lr z)) (V.asg z) z ?_ T.O9
 refine T.R7 (SX.two (XA.fr [] Lr z) (XA.fr [] Lr z))<|Th<|Sq<|Sq ?_
 obtain ⟨aB,aC,aD⟩:=M5 H
 refine T.M7 (α:=Bool) [1,2,4,6,7,8] z (fun r=>[(40,.bool r)]) (fun r=>blk i (.cells [.int .u8 a,qi b,.string qe,.string qe,.string qe,qi 0].toArray 42)::blk f (.cells [.int .u8 0,qi 0,.string qe,.string qe,.string qe,qi 0].toArray 42)::L) (fun r hh=>aB = r) ?_ ?_
 ·have H:=aC
  refine Rg<|Mv z<|Vv (V.eq z z)<|Mv z<|T.bH 37 H z (fun H=>?_) fun H=>?_
  ·refine Sk<|Sk<|Vv (V.R8 z z)<|Nt<|T.mt true (O5 H)
  refine Mv z<|Vv (V.eq z z)<|Vv (V.R9 z z)<|Nt<|T.mt (decide ((p1.D7.length:Int) = (0:Int))) (O5 H)
 rintro r b8 b9 aE
 have H:=J8 aE aD
 refine T.norm [40,1,2,4,6,7,8] z<|T.fl ?_
 refine T.cH H z (fun H=>?_) fun H=>?_
 ·refine Sr<|Vv (V.A3T (j:=0) (by exact K7) z z) ?_
  refine To (O.stF (vs:=[.int .u8 a,qi b,.string qe,.string qe,.string qe,qi 0]) K7 z z (j:=1) z z z z<|Ag z<|Nt<|T.ret<|Tr<|G5 1 z<|T.drop ?_)
  cases H
  exact T.A4z (L':=L) results13 (RVs.cons (RV.cellS z (j:=0) z K7) (Rv z)) Li (fun _ iv=>iv.drop) ⟨z,z⟩
 refine Ks<|Sq<|T.O1 (t:=(.vs [0,1,2,3,4,5,6,7,8,9,10,11] (.alt 12 (.alt 13 (.alt 14 .done .no) .no) .no))) 16 0 0 z z I4 (by kernel_rfl) ?_
 refine Tm z z<|Tm z z<|bE H fun bh aG H=>Tv z (V.A1a z z aG)<|Tm z z<|Tm z z<|bE H fun bl aI H=>Tv z (V.B2e z z aI)<|Tm z z<|bE H fun bv aJ H=>Tv z (V.A1a z z aJ)<|Tm z z<|bE H fun bz aK H=>Tv z (V.B2e z z aK)<|Tm z z<|bE H fun ca aM H=>Tv z (V.A1a z z aM)<|Ts z z (SX.two (XA.fr [] Lr z) (XA.fr [] Lr z)) (V.asg z) z ?_ T.O9
 refine Ts z z (SX.two (XA.fr [] Lr z) (XA.fr [] Lr z)) (V.asg z) z ?_ T.O9
 refine Ts z z (SX.two (XA.fr [] Lr z) (XA.fr [] Lr z)) (V.asg z) z ?_ T.O9
 refine T.R7 (SX.two (XA.fr [] Lr z) (XA.fr [] Lr z))<|Th<|Sr<|Mv z<|bE H fun cb aN H=>Vv (V.B2e z z aN)<|bE H fun s aO H=>Vv (V.A1a z z aO)<|Ag z<|Nt<|Sq<|Sr<|Vv (V.fa A0o z)<|Vv (V.ldO (k:=0) A1f z (j:=0) z z)<|Nt<|Bl<|Sq<|Sr<|Vv (V.eq z z)<|Ag z<|Nt ?_
 obtain ⟨aP,aS,aU⟩:=M5 H
 refine T.M7 (α:=Bool) [1,2,4,6,9,10,11,12,58] z (fun w=>[(59,.bool w)]) (fun w=>blk i (.cells [.int .u8 a,qi b,.string qe,.string qe,.string qe,qi 0].toArray 42)::blk f (.cells [.int .u8 0,qi 0,.string qe,.string qe,.string qe,qi 0].toArray 42)::L) (fun w hh=>aP = w) ?_ ?_
 ·have H:=aS
  refine T.cH H z (fun H=>?_) fun H=>?_
  ·refine Ks<|T.mt (decide (a = (1:Int))) (O5 H)
  refine Sr<|Vv (V.eq z z)<|Ag z<|Nt<|T.cH H z (fun H=>?_) fun H=>?_
  ·refine Ks<|T.mt (decide (a = (2:Int))) (O5 H)
  refine Sr<|Vv (V.eq z z)<|Ag z<|Nt<|T.cH H z (fun H=>?_) fun H=>?_
  ·refine Ks<|T.mt (decide (a = (3:Int))) (O5 H)
  refine Sr<|Vv (V.eq z z)<|Ag z<|Nt<|T.cH H z (fun H=>?_) fun H=>?_
  ·refine Ks<|T.mt (decide (a = (4:Int))) (O5 H)
  refine Rg<|Vv (V.eq z z)<|Ag z<|Nt<|T.mt (decide (a = (5:Int))) (O5 H)
 rintro w cc cd aV
 have H:=J8 aV aU
 refine T.norm [59,1,2,4,6,9,10,11,12,58] z<|T.fl ?_
 refine T.cH H z (fun H=>?_) fun H=>?_
 ·refine Sq<|T.O1 (t:=(.vs [0,1,2,3,4,5,6,7,8,9,10,11,12] (.alt 13 (.g (.v 14 (.alt 15 .done .no))) .no))) 13 1 0 z z I4 (by kernel_rfl) ?_
  refine Tv z (V.fa K3 z)<|Tv z (V.I9 (k:=1) I7 z c.u z)<|Tm z z<|bE H fun x M H=>?_
  obtain ⟨ce,aW,⟨cf,rfl,cg⟩⟩:=G6.at e M
  refine Tv z (V.ix K8 z z e (G7 M))<|Tv z (V.fa X4 z)<|Tv z (V.I9 (k:=0) H9 z aW.u z)<|Tv z (V.fa K3 z)<|Tv z (V.I9 (k:=1) I7 z c.u z)<|Tm z z<|bE H fun y N H=>?_
  obtain ⟨ci,aX,⟨cj,rfl,ck⟩⟩:=G6.at e N
  refine Tv z (V.ix K8 z z e (G7 N))<|Tv z (V.fa X4 z)<|Tv z (V.I9 (k:=0) H9 z aX.u z)<|Tv z (V.fa V6 z)<|Tp z z (SX.two (XA.fr [] Lr z) (XA.fr [0] Lr z)) (O.st (vs:=[.string x.F8]) (k:=2) H9 z z (j:=0) z z z ?_) T.O9
  refine T.O3 Lr<|Tv z (V.fa A0e z)<|Tp z z (SX.one (XA.fr [] Lr z) z) (O.st (vs:=[.string y.F8]) (k:=3) H9 z z (j:=0) z z z ?_) T.O9
  refine T.R7 (SX.one (XA.fr [] Lr z) z)<|Th<|Sq<|Sq ?_
  obtain ⟨aY,aZ,a0⟩:=M5 H
  refine T.M7 (α:=Bool) [4,6,9,10,12] z (fun A=>[(86,.bool A)]) (fun A=>blk i (.cells [.int .u8 a,qi b,.string x.F8,.string y.F8,.string qe,qi 0].toArray 42)::blk f (.cells [.int .u8 0,qi 0,.string qe,.string qe,.string qe,qi 0].toArray 42)::L) (fun A hh=>aY = A) ?_ ?_
  ·have H:=aZ
   refine Rg<|Vv (V.fa A0o z)<|Vv (V.ldO (k:=0) A1f z (j:=0) z z)<|Vv (V.eq z z)<|Mv z<|T.bH 82 H z (fun H=>?_) fun H=>?_
   ·refine Sk<|Sk<|Sk<|Vv (V.R8 z z)<|Nt<|T.mt true (O5 H)
   refine Vv (V.fa A0o z)<|Vv (V.ldO (k:=0) A1f z (j:=0) z z)<|Vv (V.eq z z)<|Vv (V.R9 z z)<|Nt<|T.mt (decide (a = (4:Int))) (O5 H)
  rintro A cm cn a1
  have H:=J8 a1 a0
  refine T.norm [86,4,6,9,10,12] z<|T.fl ?_
  obtain ⟨a2,a3,a4⟩:=M5 H
  refine T.M7 (α:=Int) [4,6,9,10] z (fun n=>[]) (fun n=>blk i (.cells [.int .u8 a,qi b,.string x.F8,.string y.F8,.string qe,qi n].toArray 42)::blk f (.cells [.int .u8 0,qi 0,.string qe,.string qe,.string qe,qi 0].toArray 42)::L) (fun n hh=>a2 = n) ?_ ?_
  ·have H:=a3
   refine T.cH H z (fun H=>?_) fun H=>?_
   ·refine Rg<|Mv z<|Vv (V.fa Y6 z)<|To (O.st (vs:=[qi s]) (k:=5) E8 z z (j:=0) z z z<|Nt<|T.mt s (O5 H))
   refine Ks<|T.mt (0:Int) (O5 H)
  rintro n co cp a5
  have H:=J8 a5 a4
  refine T.norm [4,6,9,10] z<|T.fl ?_
  refine Sq<|Sr<|Vv (V.fa A0o z)<|Vv (V.ldO (k:=0) A1f z (j:=0) z z)<|Vv (V.eq z z)<|Nt ?_
  obtain ⟨a6,a7,a8⟩:=M5 H
  refine T.M7 (α:=Int) [4,6,9,10] z (fun o=>[]) (fun o=>blk i (.cells [.int .u8 a,qi b,.string x.F8,.string y.F8,.string qe,qi o].toArray 42)::blk f (.cells [.int .u8 0,qi 0,.string qe,.string qe,.string qe,qi 0].toArray 42)::L) (fun o hh=>a6 = o) ?_ ?_
  ·have H:=a7
   refine T.cH H z (fun H=>?_) fun H=>?_
   ·refine Rg<|Vv (V.fa Y6 z)<|Vv (V.ldO (k:=5) E8 z (j:=0) z z)<|bE H fun P a9 H=>Vv (V.J2 z z a9)<|Vv (V.fa Y6 z)<|To (O.st (vs:=[qi P]) (k:=5) E8 z z (j:=0) z z z<|Nt<|T.mt P (O5 H))
   refine Ks<|T.mt n (O5 H)
  rintro o cq cr ah
  have H:=J8 ah a8
  refine T.norm [4,6,9,10] z<|T.fl ?_
  refine Sr<|Vv (V.A3T (j:=0) (by exact K7) z z) ?_
  refine Mv z<|Mv z<|Vv (V.ne z z)<|To (O.stF (vs:=[.int .u8 a,qi b,.string x.F8,.string y.F8,.string qe,qi o]) K7 z z (j:=1) z z z z<|Ag z<|Nt<|T.ret<|Br<|Tr<|G5 1 z<|T.drop ?_)
  cases H
  exact T.A4z (L':=L) results13 (RVs.cons (RV.cellS z (j:=0) z K7) (Rv z)) Li (fun _ iv=>iv.drop) ⟨z,z⟩
 refine Sq<|Sr<|Vv (V.eq z z)<|Ag z<|Nt ?_
 obtain ⟨al,av,az⟩:=M5 H
 refine T.M7 (α:=Bool) [1,2,4,6,9,11,12,58] z (fun B=>[(100,.bool B)]) (fun B=>blk i (.cells [.int .u8 a,qi b,.string qe,.string qe,.string qe,qi 0].toArray 42)::blk f (.cells [.int .u8 0,qi 0,.string qe,.string qe,.string qe,qi 0].toArray 42)::L) (fun B hh=>al = B) ?_ ?_
 ·have H:=av
  refine T.cH H z (fun H=>?_) fun H=>?_
  ·refine Ks<|T.mt (decide (a = (6:Int))) (O5 H)
  refine Rg<|Vv (V.eq z z)<|Ag z<|Nt<|T.mt (decide (a = (7:Int))) (O5 H)
 rintro B ct cu ba
 have H:=J8 ba az
 refine T.norm [100,1,2,4,6,9,11,12,58] z<|T.fl ?_
 refine T.cH H z (fun H=>?_) fun H=>?_
 ·refine Sq<|T.O1 (t:=(.vs [0,1,2,3,4,5,6,7,8,9,10,11,12] (.alt 13 (.g (.v 14 (.alt 15 .done .no))) .no))) 13 1 0 z z I4 (by kernel_rfl) ?_
  refine Tv z (V.fa K3 z)<|Tv z (V.I9 (k:=1) I7 z c.u z)<|Tm z z<|bE H fun D S H=>?_
  obtain ⟨cw,bb,⟨cx,rfl,cy⟩⟩:=G6.at e S
  refine Tv z (V.ix K8 z z e (G7 S))<|Tv z (V.fa X4 z)<|Tv z (V.I9 (k:=0) H9 z bb.u z)<|Tv z (V.fa J4 z)<|Tv z (V.I9 (k:=0) M0 z c.u z)<|Tm z z<|bE H fun E U H=>?_
  obtain ⟨cA,bc,⟨cB,rfl,cC⟩⟩:=G6.at d U
  refine Tv z (V.ix N9 z z d (G7 U))<|Tv z (V.fa A0K z)<|Tv z (V.I9 (k:=0) H9 z bc.u z)<|Tv z (V.fa V6 z)<|Tp z z (SX.two (XA.fr [] Lr z) (XA.fr [0] Lr z)) (O.st (vs:=[.string D.F8]) (k:=2) H9 z z (j:=0) z z z ?_) T.O9
  refine T.O3 Lr<|Tv z (V.fa A0I z)<|Tp z z (SX.one (XA.fr [] Lr z) z) (O.st (vs:=[.string E.F8]) (k:=4) H9 z z (j:=0) z z z ?_) T.O9
  refine T.R7 (SX.one (XA.fr [] Lr z) z)<|Th<|Sq<|Sr<|Vv (V.fa A0o z)<|Vv (V.ldO (k:=0) A1f z (j:=0) z z)<|Vv (V.eq z z)<|Nt ?_
  obtain ⟨bd,be,bf⟩:=M5 H
  refine T.M7 (α:=Int) [4,6] z (fun p=>[]) (fun p=>blk i (.cells [.int .u8 a,qi b,.string D.F8,.string qe,.string E.F8,qi p].toArray 42)::blk f (.cells [.int .u8 0,qi 0,.string qe,.string qe,.string qe,qi 0].toArray 42)::L) (fun p hh=>bd = p) ?_ ?_
  ·have H:=be
   refine T.cH H z (fun H=>?_) fun H=>?_
   ·refine Rg<|Mv z<|bE H fun cD bg H=>Vv (V.B2e z z bg)<|Vv (V.fa J4 z)<|Vv (V.I9 (k:=0) M0 z c.u z)<|Mv z<|bE H fun cE W H=>?_
    obtain ⟨cG,bi,⟨bj,rfl,cI⟩⟩:=G6.at d W
    refine Vv (V.ix N9 z z d (G7 W))<|Vv (V.ldS z bi.u (by exact L9)) ?_
    refine bE H fun cJ bk H=>To (O.D8 z (A1W ⟨bj,z⟩ bk _) z fun cK cM cN cO bm=>?_)
    obtain ⟨rfl,bn⟩:=bm
    refine J9 _ bn<|bE H fun X bo H=>Vv (V.A1a z z bo)<|Vv (V.fa Y6 z)<|To (O.st (vs:=[qi X]) (k:=5) E8 z z (j:=0) z z z<|Nt<|T.mt X (O5 H))
   refine Ks<|T.mt (0:Int) (O5 H)
  rintro p cP cS bp
  have H:=J8 bp bf
  refine T.norm [4,6] z<|T.fl ?_
  refine Sr<|Vv (V.A3T (j:=0) (by exact K7) z z) ?_
  refine To (O.stF (vs:=[.int .u8 a,qi b,.string D.F8,.string qe,.string E.F8,qi p]) K7 z z (j:=1) z z z z<|Ag z<|Nt<|T.ret<|Br<|Tr<|G5 1 z<|T.drop ?_)
  cases H
  exact T.A4z (L':=L) results13 (RVs.cons (RV.cellS z (j:=0) z K7) (Rv z)) Li (fun _ iv=>iv.drop) ⟨z,z⟩
 refine Sr<|Vv (V.eq z z)<|Ag z<|Nt<|T.cH H z (fun H=>?_) fun H=>?_
 ·refine Sq<|Sr<|Mv z<|bE H fun cU bq H=>Vv (V.A1a z z bq)<|Vv (V.eq z z)<|Nt ?_
  obtain ⟨br,bs,bt⟩:=M5 H
  refine T.M7 (α:=ByteArray) [4,6] z (fun q=>[]) (fun q=>blk i (.cells [.int .u8 a,qi b,.string q,.string qe,.string qe,qi 0].toArray 42)::blk f (.cells [.int .u8 0,qi 0,.string qe,.string qe,.string qe,qi 0].toArray 42)::L) (fun q hh=>br = q) ?_ ?_
  ·have H:=bs
   refine T.cH H z (fun H=>?_) fun H=>?_
   ·refine Rg<|Vv (V.fa K3 z)<|Vv (V.I9 (k:=1) I7 z c.u z)<|Mv z<|bE H fun Y Z H=>?_
    obtain ⟨cV,bu,⟨cW,rfl,cX⟩⟩:=G6.at e Z
    refine Vv (V.ix K8 z z e (G7 Z))<|Vv (V.fa X4 z)<|Vv (V.I9 (k:=0) H9 z bu.u z)<|Vv (V.fa V6 z)<|To (O.st (vs:=[.string Y.F8]) (k:=2) H9 z z (j:=0) z z z<|Nt<|T.mt Y.F8 (O5 H))
   refine Ks<|T.mt qe (O5 H)
  rintro q cY cZ bw
  have H:=J8 bw bt
  refine T.norm [4,6] z<|T.fl ?_
  refine Sr<|Vv (V.A3T (j:=0) (by exact K7) z z) ?_
  refine To (O.stF (vs:=[.int .u8 a,qi b,.string q,.string qe,.string qe,qi 0]) K7 z z (j:=1) z z z z<|Ag z<|Nt<|T.ret<|Br<|Tr<|G5 1 z<|T.drop ?_)
  cases H
  exact T.A4z (L':=L) results13 (RVs.cons (RV.cellS z (j:=0) z K7) (Rv z)) Li (fun _ iv=>iv.drop) ⟨z,z⟩
 refine Sr<|Vv (V.eq z z)<|Ag z<|Nt<|T.cH H z (fun H=>?_) fun H=>?_
 ·refine Sq<|T.O1 (t:=(.vs [0,1,2,3,4,5,6,7,8,9,10,11,12] (.alt 13 (.g (.v 14 (.alt 15 .done .no))) .no))) 13 1 0 z z I4 (by kernel_rfl) ?_
  refine Tv z (V.fa K3 z)<|Tv z (V.I9 (k:=1) I7 z c.u z)<|Tm z z<|bE H fun aa ab H=>?_
  obtain ⟨c0,bx,⟨c1,rfl,c2⟩⟩:=G6.at e ab
  refine Tv z (V.ix K8 z z e (G7 ab))<|Tv z (V.fa A5K z)<|Tv z (V.I9 (k:=5) H9 z bx.u z)<|Tv z (V.fa J4 z)<|Tv z (V.I9 (k:=0) M0 z c.u z)<|Tm z z<|bE H fun ac ad H=>?_
  obtain ⟨c3,bA,⟨c4,rfl,c5⟩⟩:=G6.at d ad
  refine Tv z (V.ix N9 z z d (G7 ad))<|Tv z (V.fa A0K z)<|Tv z (V.I9 (k:=0) H9 z bA.u z)<|Tv z (V.fa V6 z)<|Tp z z (SX.two (XA.fr [] Lr z) (XA.fr [0] Lr z)) (O.st (vs:=[.string aa.Z0]) (k:=2) H9 z z (j:=0) z z z ?_) T.O9
  refine T.O3 Lr<|Tv z (V.fa A0I z)<|Tp z z (SX.one (XA.fr [] Lr z) z) (O.st (vs:=[.string ac.F8]) (k:=4) H9 z z (j:=0) z z z ?_) T.O9
  refine T.R7 (SX.one (XA.fr [] Lr z) z)<|Th<|Sq<|T.O1 (t:=(.vs [0,1,2,3] (.alt 4 (.alt 5 .done .no) .no))) 4 2 1 z z I4 (by kernel_rfl) ?_
  refine Tv z (Val.XA fun _ _ _=>V.A3T (j:=0) (by exact K7) z z) ?_
  refine Tv z (V.fa V6 z)<|Tv z (Val.XA fun _ _ _=>V.ldO (k:=2) H9 z (j:=0) z z)<|Tv z (V.sne z z)<|Tp z z (SX.two (XA.fr [0] Lr z) (XA.fr [1,1] Lr z)) (O.stF (vs:=[.int .u8 a,qi b,.string aa.Z0,.string qe,.string ac.F8,qi 0]) K7 z z (j:=1) z z z z ?_) T.O9
  refine Ts z z (SX.one (XA.fr [1] Lr z) z) (V.asg z) z ?_ T.O9
  refine T.R7 (SX.one (XA.fr [1] Lr z) z)<|Th<|T.ret<|Br<|Tr<|G5 1 z<|T.drop ?_
  cases H
  exact T.A4z (L':=L) results13 (RVs.cons (RV.cellS z (j:=0) z K7) (Rv z)) Li (fun _ iv=>iv.drop) ⟨z,z⟩
 refine Sq<|Sr<|Vv (V.eq z z)<|Ag z<|Nt ?_
 obtain ⟨bB,bC,bD⟩:=M5 H
 refine T.M7 (α:=Bool) [1,2,4,6,11,12] z (fun C=>[(164,.bool C)]) (fun C=>blk i (.cells [.int .u8 a,qi b,.string qe,.string qe,.string qe,qi 0].toArray 42)::blk f (.cells [.int .u8 0,qi 0,.string qe,.string qe,.string qe,qi 0].toArray 42)::L) (fun C hh=>bB = C) ?_ ?_
 ·have H:=bC
  refine T.cH H z (fun H=>?_) fun H=>?_
  ·refine Ks<|T.mt (decide (a = (15:Int))) (O5 H)
  refine Rg<|Vv (V.eq z z)<|Ag z<|Nt<|T.mt (decide (a = (16:Int))) (O5 H)
 rintro C c6 c7 bG
 have H:=J8 bG bD
 refine T.norm [164,1,2,4,6,11,12] z<|T.fl ?_
 refine T.cH H z (fun H=>?_) fun H=>?_
 ·refine Rg<|Mv z<|Vv (V.fa Y6 z)<|To (O.st (vs:=[qi s]) (k:=5) E8 z z (j:=0) z z z<|Ni<|Bn<|Th<|Sq<|Sr<|Mv z<|bE H fun c8 bI H=>Vv (V.A1a z z bI)<|Vv (V.gt z z)<|Nt<|T.cH H z (fun H=>?_) fun H=>?_)
  ·refine Rg<|Vv (V.fa J4 z)<|Vv (V.I9 (k:=0) M0 z c.u z)<|Mv z<|bE H fun ae af H=>?_
   obtain ⟨c9,bJ,⟨ch,rfl,cl⟩⟩:=G6.at d af
   refine Vv (V.ix N9 z z d (G7 af))<|Vv (V.fa A0K z)<|Vv (V.I9 (k:=0) H9 z bJ.u z)<|Vv (V.fa A0I z)<|To (O.st (vs:=[.string ae.F8]) (k:=4) H9 z z (j:=0) z z z<|Nt<|Sr<|Vv (V.A3T (j:=0) (by exact K7) z z) ?_)
   refine To (O.stF (vs:=[.int .u8 a,qi b,.string qe,.string qe,.string ae.F8,qi s]) K7 z z (j:=1) z z z z<|Ag z<|Nt<|T.ret<|G5 1 z<|T.drop ?_)
   cases H
   exact T.A4z (L':=L) results13 (RVs.cons (RV.cellS z (j:=0) z K7) (Rv z)) Li (fun _ iv=>iv.drop) ⟨z,z⟩
  refine Ks<|Sr<|Vv (V.A3T (j:=0) (by exact K7) z z) ?_
  refine To (O.stF (vs:=[.int .u8 a,qi b,.string qe,.string qe,.string qe,qi s]) K7 z z (j:=1) z z z z<|Ag z<|Nt<|T.ret<|G5 1 z<|T.drop ?_)
  cases H
  exact T.A4z (L':=L) results13 (RVs.cons (RV.cellS z (j:=0) z K7) (Rv z)) Li (fun _ iv=>iv.drop) ⟨z,z⟩
 refine T.skip<|Bn<|Th<|Sq<|Sr<|Mv z<|bE H fun cv bK H=>Vv (V.A1a z z bK)<|Vv (V.gt z z)<|Nt<|T.cH H z (fun H=>?_) fun H=>?_
 ·refine Rg<|Vv (V.fa J4 z)<|Vv (V.I9 (k:=0) M0 z c.u z)<|Mv z<|bE H fun ag ai H=>?_
  obtain ⟨cz,bM,⟨da,rfl,db⟩⟩:=G6.at d ai
  refine Vv (V.ix N9 z z d (G7 ai))<|Vv (V.fa A0K z)<|Vv (V.I9 (k:=0) H9 z bM.u z)<|Vv (V.fa A0I z)<|To (O.st (vs:=[.string ag.F8]) (k:=4) H9 z z (j:=0) z z z<|Nt<|Sr<|Vv (V.A3T (j:=0) (by exact K7) z z) ?_)
  refine To (O.stF (vs:=[.int .u8 a,qi b,.string qe,.string qe,.string ag.F8,qi 0]) K7 z z (j:=1) z z z z<|Ag z<|Nt<|T.ret<|G5 1 z<|T.drop ?_)
  cases H
  exact T.A4z (L':=L) results13 (RVs.cons (RV.cellS z (j:=0) z K7) (Rv z)) Li (fun _ iv=>iv.drop) ⟨z,z⟩
 refine Ks<|Sr<|Vv (V.A3T (j:=0) (by exact K7) z z) ?_
 refine To (O.stF (vs:=[.int .u8 a,qi b,.string qe,.string qe,.string qe,qi 0]) K7 z z (j:=1) z z z z<|Ag z<|Nt<|T.ret<|G5 1 z<|T.drop ?_)
 cases H
 exact T.A4z (L':=L) results13 (RVs.cons (RV.cellS z (j:=0) z K7) (Rv z)) Li (fun _ iv=>iv.drop) ⟨z,z⟩
theorem C1W {h aZ aw Z} (bK:A1h h aZ aw) (H:B1D aw = some Z):∀ L,G8 prog 4 [.agg aZ.toArray] h (L) (fun v h' L'=>∃ v0_1 v0_3 v0_5 v0_7 v0_9,v = .agg #[v0_1,v0_3,v0_5,v0_7,v0_9]∧L' = L∧G6 F7 7 h' v0_1 Z.D7∧G6 F9 9 h' v0_3 Z.A8∧G6 H7 3 h' v0_5 Z.I8∧G6 (VI .i64) 1 h' v0_7 Z.I6∧G6 H5 6 h' v0_9 Z.J3):=by
 intro L
 obtain ⟨dX,dY,dZ,d0,rfl,aN,aK,aO,aP⟩:=bK
 refine G8.enter func4 z z z<|Sr<|To (O.Y0 z z z fun d1 bM d2 A=>To (O.alloc A0p z z fun w=>Nt<|Sr<|To (O.alloc A0p z z fun x=>Nt<|Sr<|Ag z<|Nt<|Sq<|Sr<|Ag z<|Nt ?_)))
 obtain ⟨a0,bN,bO⟩:=M5 H
 refine T.M7 (α:=Int×(List C8)×Value×(List (List Value))) [1,2,3] z (fun ⟨ax,aa,m,B⟩=>[(4,qi ax)]) (fun ⟨ax,aa,m,B⟩=>blk x (.cells [m,qs,qs,qs,qs].toArray 33)::blk w (.cells [qs,qs,qs,qs,qs].toArray 33)::D5 54 7 m B::L) (fun ⟨ax,aa,m,B⟩ hh=>a0 = (ax,aa)∧A7 F7 hh B aa) ?_ ?_
 ·have H:=bN
  refine Bl<|T.U9 54 7<|have bP:A7 F7 bM [] ([]:List C8):=A7.nil; G5 2 z<|T.fl ?_
  refine G5 2 z<|T.fl ?_
  refine T.M8 (α:=Nat×(List C8)×Int×Int×Value×(List (List Value))) [1,2,3] z (fun ⟨ab,J,K,M,C,y⟩=>[(4,qi K),(5,qi M)]) (fun ⟨ab,J,K,M,C,y⟩=>blk x (.cells [C,qs,qs,qs,qs].toArray 33)::blk w (.cells [qs,qs,qs,qs,qs].toArray 33)::D5 54 7 C y::L) (fun ⟨ab,J,K,M,C,y⟩ hh=>iter (A4C aw) ab (J,K,M) = some a0∧A7 F7 hh y J) (fun ⟨ab,J,K,M,C,y⟩=>ab) (FUEL,([]:List C8),(0:Int),(0:Int),(qs),[]) ⟨z,z,trivial⟩ z ⟨H,bP⟩ ?_
  rintro ⟨ab,J,K,M,C,y⟩ d3 d4 ⟨bS,aS⟩
  obtain ⟨bU,d5,rfl,H,a1⟩:=I1 bS
  refine T.norm [4,5,1,2,3] z<|T.fl ?_
  refine Sq<|Sq ?_
  obtain ⟨bV,bW,bX⟩:=M5 H
  refine T.M7 (α:=Bool) [1,2,3,4,5] z (fun ay=>[(23,.bool ay)]) (fun ay=>blk x (.cells [C,qs,qs,qs,qs].toArray 33)::blk w (.cells [qs,qs,qs,qs,qs].toArray 33)::D5 54 7 C y::L) (fun ay hh=>bV = ay) ?_ ?_
  ·have H:=bW
   refine Rg<|Mv z<|Vv (V.fa B9L z)<|Vv (V.I9 (k:=0) B6v z A.u z)<|Vv (V.P9 A7p z aN)<|Vv (V.lt z z)<|Mv z<|T.bH 20 H z (fun H=>?_) fun H=>?_
   ·refine Mv z<|Vv (V.lt z z)<|Vv (V.R8 z z)<|Nt<|T.mt (decide (M < (3:Int))) (O5 H)
   refine Sk<|Sk<|Vv (V.R9 z z)<|Nt<|T.mt false (O5 H)
  rintro ay d6 d7 bY
  have H:=J8 bY bX
  refine T.norm [23,1,2,3,4,5] z<|T.fl ?_
  refine T.cH H z (fun H=>?_) fun H=>?_
  ·refine Ks<|Sq<|Bl<|Sr<|Mv z<|Vv (V.fa B9L z)<|Vv (V.I9 (k:=0) B6v z A.u z)<|Mv z<|bE H fun d8 a2 H=>?_
   obtain ⟨d9,bZ,rfl⟩:=G6.at aN a2
   refine Vv (V.ix A7p z z aN (G7 a2))<|Vv (V.ld0 A1v z bZ.u z)<|bE H fun dh b0 H=>Vv (V.A4v underlying5 underlying3 z b0)<|bE H fun a b2 H=>To (O.D8 z (B9w b2 _) z fun dl dv dz ea b3=>?_)
   obtain ⟨ac,rfl,b4,a3⟩:=b3
   refine J9 _ b4<|To (O.alloc A3n z z fun eb=>To (O.stF (vs:=[.string a.F8,.int .u8 a.O6,qi a.fA,qi a.fB,ac,qi a.fX,qi a.fY]) L9 z z (j:=0) z z (by (simp only [Sl.ones,G6.one a3,Bool.and_true,Bool.true_and]) <;> rfl) z ?_))
   refine T.fl ?_
   refine T.freeze fun a4 ec b5=>have a5:=AtC.of b5; Nt<|Sr<|Vv (V.fa J4 z)<|Vv (V.ldO (k:=0) M0 z (j:=0) z z)<|Ag z<|Nt<|Sr<|Mv z<|Vv (V.ldS z a5 (by exact L9)) ?_
   refine To (O.bs N9 A3n z (e:=z) (hk:=z) (xs:=[.tmp 37]) (hv:=CO.eq (CO.cons z CO.nil)) (hw:=O4.of z) (hd:=z) fun ed=>have aU:A7 F7 a4 [[.string a.F8,.int .u8 a.O6,qi a.fA,qi a.fB,ac,qi a.fX,qi a.fY]] ([a]:List C8):=(A7.cons ⟨ac,z,a3.u⟩ A7.nil); bE H fun a6 a7 H=>To (O.apX N9 N9 A3n z z z (j:=3) z (Src.row (j:=0) z) (O4.of z) (A7.ones F7.plain aU) aS.u aU a7 z fun a8 ee ef=>have b6:A7 F7 a4 (y ++ [[.string a.F8,.int .u8 a.O6,qi a.fA,qi a.fB,ac,qi a.fX,qi a.fY]]) a6:=A7.ap aS.u aU a7; T.fl ?_))
   refine G5 1 z<|T.fl ?_
   refine T.drop<|Vv (V.fa J4 z)<|T.J7 0 z fun b7 b8=>To (O.st (vs:=[a8]) (k:=0) M0 z z (j:=1) z b8 (by (simp only [Sl.ones,b7,Bool.and_true,Bool.true_and]) <;> rfl) ?_)
   refine T.fl ?_
   refine Nt<|Rg<|Mv z<|Vv (V.ldS z a5 (by exact L9)) ?_
   refine bE H fun eg b9 H=>To (O.D8 z (A1W ⟨ac,z⟩ b9 _) z fun ei ej ek em bh=>?_)
   obtain ⟨rfl,bl⟩:=bh
   refine J9 _ bl<|bE H fun bv bz H=>Vv (V.J2 z z bz)<|Ag z<|Ni<|Bn<|Th<|Rg<|Mv z<|bE H fun ca cb H=>Vv (V.J2 z z cb)<|Ag z<|Nt<|G5 1 z<|T.fl ?_
   refine G5 2 z<|T.fl ?_
   refine G5 2 z<|T.fl ?_
   exact T.ag (bU,a6,bv,ca,a8,(y ++ [[.string a.F8,.int .u8 a.O6,qi a.fA,qi a.fB,ac,qi a.fX,qi a.fY]])) ⟨(F4 H a1),b6.u⟩
  refine T.exit<|Te<|Te<|have H:=D9 H a1; Be<|Th<|T.mt (K,J,C,y) ⟨H,aS.u⟩
 rintro ⟨ax,aa,m,B⟩ cc en ⟨cd,ce⟩
 have H:=J8 cd bO
 refine T.norm [4,1,2,3] z<|T.fl ?_
 refine Sq ?_
 obtain ⟨cf,cg,ci⟩:=M5 H
 refine T.M7 (α:=R4×Addr×Value×Value) [1,2,3] z (fun ⟨I,aA,d,f⟩=>[(8,.pointer (some aA))]) (fun ⟨I,aA,d,f⟩=>blk x (.cells [m,qs,qs,qs,qs].toArray 33)::blk w (.cells [qs,qs,qs,qs,qs].toArray 33)::D5 54 7 m B::L) (fun ⟨I,aA,d,f⟩ hh=>cf = I∧AtC hh aA [d,f]∧G6 F9 9 hh d I.A8∧G6 H7 3 hh f I.I8) ?_ ?_
 ·have H:=cg
  refine T.O1 (t:=(.vs [0,1,2,3,4,5,6,7,8,9] (.alt 10 (.alt 11 (.alt 12 .done .no) .no) (.alt 11 (.alt 10 (.alt 12 .done .no) .no) .no)))) 14 0 0 z z I4 (by kernel_rfl) ?_
  refine Tv z (V.fa B6b z)<|Tv z (V.I9 (k:=1) C1j z A.u z)<|Tv z (V.fa B6b z)<|Tv z (V.I9 (k:=1) C1j z A.u z)<|Tv z (V.P9 B3e z aK)<|Tm z z<|Tv z (V.min2 z z)<|bE H fun cj a9 H=>T.D1E z z B3e z aK.u (.inl ⟨z,z⟩) (.inr ⟨_,_,z,z⟩) (A5F a9).2 z Calm.i fun ck cm eo=>?_
  have ah:G6 (VI .u16) 1 cc ck cj:=by rw [(A5F a9).1]; exact cm
  refine Tv z (V.fa C0l z)<|Tv z (V.I9 (k:=2) B6v z A.u z)<|T.C4A ?_ ?_
  ·refine bE H fun cn co H=>Tp z z (SX.two (XA.fr [] Lr z) (XA.fr [] Lr z)) (O.D8 z (B5f ah aO.u co _) z fun ep er es et cp=>?_) T.O9
   obtain ⟨al,av,rfl,cq,az,ba⟩:=cp
   refine J9 _ cq<|Tp z z (SX.two (XA.fr [] Li z) (XA.fr [] Li z)) (O.alloc B6M z z fun cr=>?_) T.O9
   refine Tp z z (SX.two (XA.fr [] Li z) (XA.fr [] Li z)) (O.stF (vs:=[al,av]) A3V z z (j:=0) z z (by (simp only [Sl.ones,G6.one az,G6.one ba,Bool.and_true,Bool.true_and]) <;> rfl) z ?_) T.O9
   refine T.fl ?_
   refine T.freeze fun eu ew cs=>have ct:=AtC.of cs; T.R7 (SX.two (XA.fr [] Li z) (XA.fr [] Li z))<|Th<|T.mt (cn,⟨cr,0,none⟩,al,av) ⟨(O5 H),ct,az.u,ba.u⟩
  refine Tp z z (SX.two (XA.fr [] Lr z) (XA.fr [] Lr z)) (O.alloc B6M z z fun cu=>?_) T.O9
  refine bE H fun cw cx H=>Tp z z (SX.two (XA.fr [] Lr z) (XA.fr [] Lr z)) (O.D8 z (B5f ah aO.u cx _) z fun ex ey eA eB cy=>?_) T.O9
  obtain ⟨bb,bc,rfl,cA,bd,be⟩:=cy
  refine J9 _ cA<|Tp z z (SX.two (XA.fr [] Li z) (XA.fr [] Li z)) (O.stF (vs:=[bb,bc]) A3V z z (j:=0) z z (by (simp only [Sl.ones,G6.one bd,G6.one be,Bool.and_true,Bool.true_and]) <;> rfl) z ?_) T.O9
  refine T.fl ?_
  refine T.freeze fun eC eD cB=>have cC:=AtC.of cB; T.R7 (SX.two (XA.fr [] Li z) (XA.fr [] Li z))<|Th<|T.mt (cw,⟨cu,0,none⟩,bb,bc) ⟨(O5 H),cC,bd.u,be.u⟩
 rintro ⟨I,aA,d,f⟩ bf eE ⟨cD,bg,N,ad⟩
 have H:=J8 cD ci
 refine T.norm [8,1,2,3] z<|T.fl ?_
 refine Sq<|T.O1 (t:=(.vs [0,1,2,3,4] (.alt 5 (.g (.v 6 (.alt 7 .done .no))) .no))) 5 1 0 z z I4 (by kernel_rfl) ?_
 refine Tv z (V.fa A2x z)<|Tv z (V.I9 (k:=0) I7 z bg z)<|Tv z (V.fa A5A z)<|Tv z (V.I9 (k:=1) Q4 z bg z)<|Tv z (V.fa K3 z)<|Tp z z (SX.two (XA.fr [] Lr z) (XA.fr [0] Lr z)) (O.st (vs:=[d]) (k:=1) I7 z z (j:=0) z (G6.cells N) (by (simp only [Sl.ones,G6.one N,Bool.and_true,Bool.true_and]) <;> rfl) ?_) T.O9
 refine T.fl ?_
 refine T.O3 Lr<|Tv z (V.fa Y5 z)<|Tp z z (SX.one (XA.fr [] Lr z) z) (O.st (vs:=[f]) (k:=2) Q4 z z (j:=0) z (G6.cells ad) (by (simp only [Sl.ones,G6.one ad,Bool.and_true,Bool.true_and]) <;> rfl) ?_) T.O9
 refine T.fl ?_
 refine T.R7 (SX.one (XA.fr [] Lr z) z)<|Th<|Sq<|Sr<|Vv (V.fa C0l z)<|Vv (V.I9 (k:=2) B6v z A.u z)<|Vv (V.P9 A7p z aO)<|bE H fun eG cE H=>Vv (V.A1a z z cE)<|Vv (V.gt z z)<|Nt ?_
 obtain ⟨cG,cI,cJ⟩:=M5 H
 refine T.M7 (α:=(List Int)×Value×(List (List Value))) [1,2,3] z (fun ⟨ae,af,aB⟩=>[]) (fun ⟨ae,af,aB⟩=>blk x (.cells [m,d,f,af,qs].toArray 33)::blk w (.cells [qs,qs,qs,qs,qs].toArray 33)::D5 54 7 m B::D5 3 1 af aB::L) (fun ⟨ae,af,aB⟩ hh=>cG = ae∧A7 (VI .i64) hh aB ae) ?_ ?_
 ·have H:=cI
  refine T.cH H z (fun H=>?_) fun H=>?_
  ·refine Sr<|Ag z<|Nt<|T.A5G ?_
   obtain ⟨bi,cK,cM⟩:=M5 H
   refine T.M7 (α:=(List Int)×Value×(List (List Value))) [1,2,3] z (fun ⟨ai,aj,ak⟩=>[]) (fun ⟨ai,aj,ak⟩=>blk x (.cells [m,d,f,aj,qs].toArray 33)::blk w (.cells [qs,qs,qs,qs,qs].toArray 33)::D5 54 7 m B::D5 3 1 aj ak::L) (fun ⟨ai,aj,ak⟩ hh=>bi = ai∧A7 (VI .i64) hh ak ai) ?_ ?_
   ·have H:=cK
    refine Bl<|T.U9 3 1<|have cN:A7 (VI .i64) bf [] ([]:List Int):=A7.nil; G5 3 z<|T.fl ?_
    refine G5 3 z<|T.fl ?_
    refine G5 3 z<|T.fl ?_
    refine T.M8 (α:=Nat×(List Int)×Int×Value×(List (List Value))) [1,2,3] z (fun ⟨am,P,an,S,D⟩=>[(9,qi an)]) (fun ⟨am,P,an,S,D⟩=>blk x (.cells [m,d,f,S,qs].toArray 33)::blk w (.cells [qs,qs,qs,qs,qs].toArray 33)::D5 54 7 m B::D5 3 1 S D::L) (fun ⟨am,P,an,S,D⟩ hh=>iter (A4Q aw I) am (P,an) = some bi∧A7 (VI .i64) hh D P) (fun ⟨am,P,an,S,D⟩=>am) (FUEL,([]:List Int),(0:Int),(qs),[]) ⟨z,trivial⟩ z ⟨H,cN⟩ ?_
    rintro ⟨am,P,an,S,D⟩ cO eI ⟨cP,aV⟩
    obtain ⟨cS,eJ,rfl,H,bj⟩:=I1 cP
    refine T.norm [9,1,2,3] z<|T.fl ?_
    refine Sq<|Sr<|Mv z<|Vv (V.fa K3 z)<|Vv (V.ldO (k:=1) I7 z (j:=0) z z)<|Vv (V.P9 K8 z N)<|Vv (V.lt z z)<|Nt<|T.cH H z (fun H=>?_) fun H=>?_
    ·refine Ks<|Sq<|Bl<|Sr<|Vv (V.fa Y3 z)<|Vv (V.ldO (k:=3) E5 z (j:=0) z z)<|Ag z<|Nt<|Rg<|Mv z<|Vv (V.fa B6b z)<|Vv (V.I9 (k:=1) C1j z A.u z)<|Mv z<|bE H fun eK bk H=>?_
     obtain ⟨eM,cU,rfl⟩:=G6.at aK bk
     refine Vv (V.ix B3e z z aK (G7 bk))<|Vv (V.ld0 C5m z cU.u z)<|bE H fun eN cV H=>Vv (V.A4v underlying60 underlying3 z cV)<|bE H fun eO cW H=>Vv (V.B2e z z cW)<|bE H fun bm cX H=>Vv (V.A1a z z cX)<|To (O.b1 (E:=VI .i64) C9 M9 z z z z z fun eP aW=>bE H fun bn bo H=>To (O.apX C9 C9 M9 z z z (j:=4) z (Src.row (j:=0) z) (O4.of z) (A7.ones VI.plain aW) aV aW bo z fun bp eS eU=>have cY:A7 (VI .i64) cO (D ++ [[qi bm]]) bn:=A7.ap aV aW bo; T.fl ?_))
     refine G5 1 z<|T.fl ?_
     refine T.drop<|Vv (V.fa Y3 z)<|T.J7 0 z fun cZ c0=>To (O.st (vs:=[bp]) (k:=3) E5 z z (j:=1) z c0 (by (simp only [Sl.ones,cZ,Bool.and_true,Bool.true_and]) <;> rfl) ?_)
     refine T.fl ?_
     refine Ni<|Bn<|Th<|Rg<|Mv z<|bE H fun c1 c2 H=>Vv (V.J2 z z c2)<|Ag z<|Nt<|G5 1 z<|T.fl ?_
     refine G5 3 z<|T.fl ?_
     refine G5 3 z<|T.fl ?_
     refine G5 3 z<|T.fl ?_
     exact T.ag (cS,bn,c1,bp,(D ++ [[qi bm]])) ⟨(F4 H bj),cY⟩
    refine T.exit<|Te<|Te<|have H:=D9 H bj; Be<|Th<|T.mt (P,S,D) ⟨H,aV⟩
   rintro ⟨ai,aj,ak⟩ eV eW ⟨c3,c4⟩
   have H:=J8 c3 cM
   refine T.norm [1,2,3] z<|T.fl ?_
   refine Th<|T.mt (ai,aj,ak) ⟨(O5 H),c4⟩
  refine Ks<|T.U9 3 1<|have c5:A7 (VI .i64) bf [] ([]:List Int):=A7.nil; G5 3 z<|T.fl ?_
  refine G5 3 z<|T.fl ?_
  refine G5 3 z<|T.fl ?_
  exact T.mt (([]:List Int),(qs),[]) ⟨(O5 H),c5⟩
 rintro ⟨ae,af,aB⟩ eX eY ⟨c6,c7⟩
 have H:=J8 c6 cJ
 refine T.norm [1,2,3] z<|T.fl ?_
 refine Sq<|Sr<|Ag z<|Nt ?_
 obtain ⟨bq,c8,c9⟩:=M5 H
 refine T.M7 (α:=(List C8)×(List Int)×(List F6)×Value×Value×Value×(List (List Value))) [2,3] z (fun ⟨aC,aD,aE,ao,aq,ar,aG⟩=>[]) (fun ⟨aC,aD,aE,ao,aq,ar,aG⟩=>blk x (.cells [ao,d,f,aq,ar].toArray 33)::blk w (.cells [qs,qs,qs,qs,qs].toArray 33)::D5 42 6 ar aG::L) (fun ⟨aC,aD,aE,ao,aq,ar,aG⟩ hh=>bq = (aC,aD,aE)∧G6 F7 7 hh ao aC∧G6 (VI .i64) 1 hh aq aD∧A7 H5 hh aG aE) ?_ ?_
 ·have H:=c8
  refine Bl<|G5 2 z<|T.fl ?_
  refine T.J5 fun eZ e0 ch=>have cl:=A7.Z4 ch ce.u; G5 2 z<|T.fl ?_
  refine T.J5 fun cv e1 cz=>have da:=A7.Z4 cz c7.u; T.U9 42 6<|have db:A7 H5 cv [] ([]:List F6):=A7.nil; G5 2 z<|T.fl ?_
  refine G5 2 z<|T.fl ?_
  refine T.M8 (α:=Nat×(List C8)×(List Int)×(List F6)×Int×Value×Value×Value×(List (List Value))) [1,2,3] z (fun ⟨au,r,s,G,U,n,o,q,p⟩=>[(11,qi U)]) (fun ⟨au,r,s,G,U,n,o,q,p⟩=>blk x (.cells [n,d,f,o,q].toArray 33)::blk w (.cells [qs,qs,qs,qs,qs].toArray 33)::D5 42 6 q p::L) (fun ⟨au,r,s,G,U,n,o,q,p⟩ hh=>iter (A4H aw I) au (r,s,G,U) = some bq∧G6 F7 7 hh n r∧G6 (VI .i64) 1 hh o s∧A7 H5 hh p G) (fun ⟨au,r,s,G,U,n,o,q,p⟩=>au) (FUEL,aa,ae,([]:List F6),(0:Int),m,af,(qs),[]) ⟨z,trivial⟩ z ⟨H,cl.u,da,db⟩ ?_
  rintro ⟨au,r,s,G,U,n,o,q,p⟩ e2 e3 ⟨dc,W,X,Y⟩
  obtain ⟨aM,e4,rfl,H,aI⟩:=I1 dc
  refine T.norm [11,1,2,3] z<|T.fl ?_
  refine Sq<|Sq ?_
  obtain ⟨dd,de,df⟩:=M5 H
  refine T.M7 (α:=Bool) [1,2,3,11] z (fun aJ=>[(96,.bool aJ)]) (fun aJ=>blk x (.cells [n,d,f,o,q].toArray 33)::blk w (.cells [qs,qs,qs,qs,qs].toArray 33)::D5 42 6 q p::L) (fun aJ hh=>dd = aJ) ?_ ?_
  ·have H:=de
   refine Rg<|Mv z<|Vv (V.fa C0d z)<|Vv (V.I9 (k:=3) C4r z A.u z)<|Vv (V.P9 C4H z aP)<|Vv (V.lt z z)<|Mv z<|T.bH 93 H z (fun H=>?_) fun H=>?_
   ·refine Mv z<|Vv (V.lt z z)<|Vv (V.R8 z z)<|Nt<|T.mt (decide (U < (12:Int))) (O5 H)
   refine Sk<|Sk<|Vv (V.R9 z z)<|Nt<|T.mt false (O5 H)
  rintro aJ e5 e6 dg
  have H:=J8 dg df
  refine T.norm [96,1,2,3,11] z<|T.fl ?_
  refine T.cH H z (fun H=>?_) fun H=>?_
  ·refine Ks<|Sq<|Bl<|Sq<|T.O1 (t:=(.vs [0,1,2,3,4,5,6] (.alt 7 (.g (.vs [8,9,10] (.alt 11 (.alt 12 (.alt 13 .done .no) .no) .no))) (.alt 11 (.alt 7 (.g (.vs [8,9,10] (.alt 12 (.alt 13 .done .no) .no))) .no) .no)))) 15 1 1 z z I4 (by kernel_rfl) ?_
   refine Tv z (Val.XA fun _ _ _=>V.A3T (j:=0) (by exact G9) z z) ?_
   refine Tv z (V.fa C0d z)<|Tv z (V.I9 (k:=3) C4r z A.u z)<|Tm z z<|bE H fun e7 br H=>?_
   obtain ⟨e8,di,rfl⟩:=G6.at aP br
   refine Tv z (V.ix C4H z z aP (G7 br))<|Tv z (V.ld0 C8F z di.u z)<|bE H fun e9 dj H=>Tv z (V.A4v underlying63 underlying3 z dj)<|T.C4A ?_ ?_
   ·refine bE H fun ⟨b,eh⟩ dk H=>Tp z z (SX.two (XA.fr [0] Lr z) (XA.fr [0] Lr z)) (O.D8 z (B3v ⟨n,d,f,o,q,z,W.u,N.u,ad.u,X.u⟩ dk _) z fun el ev ez fb dm=>?_) T.O9
    obtain ⟨rfl,dn⟩:=dm
    refine J9 _ dn<|T.O3 Li<|Tm z z<|Tv z (V.ext z z)<|Tv z (V.ext z z)<|Tp z z (SX.two (XA.fr [0] Lr z) (XA.fr [0] Lr z)) (O.alloc A1x z z fun fc=>?_) T.O9
    refine Tp z z (SX.two (XA.fr [1] Lr z) (XA.fr [1] Lr z)) (O.stF (vs:=[.int .u8 b.H8,qi b.Q3,.string b.fA,.string b.fB,.string b.R6,qi b.fN]) K7 z z (j:=0) z z z z ?_) T.O9
    refine T.fl ?_
    refine T.freeze fun bt fd dp=>have dq:=AtC.of dp; Ts z z (SX.two (XA.fr [0] Li z) (XA.fr [0] Li z)) (V.asg z) z ?_ T.O9
    refine T.R7 (SX.two (XA.fr [0] Li z) (XA.fr [0] Li z))<|Th<|Sr<|Mv z<|Nt<|T.cH H z (fun H=>?_) fun H=>?_
    ·refine Sr<|Vv (V.fa P6 z)<|Vv (V.ldO (k:=4) O7 z (j:=0) z z)<|Ag z<|Nt<|Rg<|Mv z<|Vv (V.ldS z dq (by exact K7)) ?_
     refine To (O.bs Q5 A1x z (e:=z) (hk:=z) (xs:=[.tmp 114]) (hv:=CO.eq (CO.cons z CO.nil)) (hw:=O4.of z) (hd:=z) fun fe=>have aX:A7 H5 bt [[.int .u8 b.H8,qi b.Q3,.string b.fA,.string b.fB,.string b.R6,qi b.fN]] ([b]:List F6):=(A7.cons z A7.nil); bE H fun bu bw H=>To (O.apX Q5 Q5 A1x z z z (j:=3) z (Src.row (j:=0) z) (O4.of z) (A7.ones H5.plain aX) Y.u aX bw z fun bx ff fg=>have dr:A7 H5 bt (p ++ [[.int .u8 b.H8,qi b.Q3,.string b.fA,.string b.fB,.string b.R6,qi b.fN]]) bu:=A7.ap Y.u aX bw; T.fl ?_))
     refine G5 1 z<|T.fl ?_
     refine T.drop<|Vv (V.fa P6 z)<|T.J7 0 z fun ds dt=>To (O.st (vs:=[bx]) (k:=4) O7 z z (j:=1) z dt (by (simp only [Sl.ones,ds,Bool.and_true,Bool.true_and]) <;> rfl) ?_)
     refine T.fl ?_
     refine Ni<|Bn<|Th<|Rg<|Mv z<|bE H fun du dw H=>Vv (V.J2 z z dw)<|Ag z<|Nt<|G5 1 z<|T.fl ?_
     refine G5 2 z<|T.fl ?_
     refine G5 2 z<|T.fl ?_
     exact T.ag (aM,r,s,bu,du,n,o,bx,(p ++ [[.int .u8 b.H8,qi b.Q3,.string b.fA,.string b.fB,.string b.R6,qi b.fN]])) ⟨(F4 H aI),W.u,X.u,dr⟩
    refine T.skip<|Bn<|Th<|Rg<|Mv z<|bE H fun dx dy H=>Vv (V.J2 z z dy)<|Ag z<|Nt<|T.ag (aM,r,s,G,dx,n,o,q,p) ⟨(F4 H aI),W.u,X.u,Y.u⟩
   refine Tp z z (SX.two (XA.fr [0] Lr z) (XA.fr [0] Lr z)) (O.alloc A1x z z fun fi=>?_) T.O9
   refine bE H fun ⟨c,fj⟩ dA H=>Tp z z (SX.two (XA.fr [1] Lr z) (XA.fr [1] Lr z)) (O.D8 z (B3v ⟨n,d,f,o,q,z,W.u,N.u,ad.u,X.u⟩ dA _) z fun fk fm fn fo dB=>?_) T.O9
   obtain ⟨rfl,dC⟩:=dB
   refine J9 _ dC<|T.O3 Li<|Tm z z<|Tv z (V.ext z z)<|Tv z (V.ext z z)<|Tp z z (SX.two (XA.fr [1] Lr z) (XA.fr [1] Lr z)) (O.stF (vs:=[.int .u8 c.H8,qi c.Q3,.string c.fA,.string c.fB,.string c.R6,qi c.fN]) K7 z z (j:=0) z z z z ?_) T.O9
   refine T.fl ?_
   refine T.freeze fun bA fp dD=>have dE:=AtC.of dD; Ts z z (SX.two (XA.fr [0] Li z) (XA.fr [0] Li z)) (V.asg z) z ?_ T.O9
   refine T.R7 (SX.two (XA.fr [0] Li z) (XA.fr [0] Li z))<|Th<|Sr<|Mv z<|Nt<|T.cH H z (fun H=>?_) fun H=>?_
   ·refine Sr<|Vv (V.fa P6 z)<|Vv (V.ldO (k:=4) O7 z (j:=0) z z)<|Ag z<|Nt<|Rg<|Mv z<|Vv (V.ldS z dE (by exact K7)) ?_
    refine To (O.bs Q5 A1x z (e:=z) (hk:=z) (xs:=[.tmp 114]) (hv:=CO.eq (CO.cons z CO.nil)) (hw:=O4.of z) (hd:=z) fun fq=>have aY:A7 H5 bA [[.int .u8 c.H8,qi c.Q3,.string c.fA,.string c.fB,.string c.R6,qi c.fN]] ([c]:List F6):=(A7.cons z A7.nil); bE H fun bB bC H=>To (O.apX Q5 Q5 A1x z z z (j:=3) z (Src.row (j:=0) z) (O4.of z) (A7.ones H5.plain aY) Y.u aY bC z fun bD fs ft=>have dG:A7 H5 bA (p ++ [[.int .u8 c.H8,qi c.Q3,.string c.fA,.string c.fB,.string c.R6,qi c.fN]]) bB:=A7.ap Y.u aY bC; T.fl ?_))
    refine G5 1 z<|T.fl ?_
    refine T.drop<|Vv (V.fa P6 z)<|T.J7 0 z fun dI dJ=>To (O.st (vs:=[bD]) (k:=4) O7 z z (j:=1) z dJ (by (simp only [Sl.ones,dI,Bool.and_true,Bool.true_and]) <;> rfl) ?_)
    refine T.fl ?_
    refine Ni<|Bn<|Th<|Rg<|Mv z<|bE H fun dK dM H=>Vv (V.J2 z z dM)<|Ag z<|Nt<|G5 1 z<|T.fl ?_
    refine G5 2 z<|T.fl ?_
    refine G5 2 z<|T.fl ?_
    exact T.ag (aM,r,s,bB,dK,n,o,bD,(p ++ [[.int .u8 c.H8,qi c.Q3,.string c.fA,.string c.fB,.string c.R6,qi c.fN]])) ⟨(F4 H aI),W.u,X.u,dG⟩
   refine T.skip<|Bn<|Th<|Rg<|Mv z<|bE H fun dN dO H=>Vv (V.J2 z z dO)<|Ag z<|Nt<|T.ag (aM,r,s,G,dN,n,o,q,p) ⟨(F4 H aI),W.u,X.u,Y.u⟩
  refine T.exit<|Te<|Te<|have H:=D9 H aI; Be<|Th<|T.mt (r,s,G,n,o,q,p) ⟨H,W.u,X.u,Y.u⟩
 rintro ⟨aC,aD,aE,ao,aq,ar,aG⟩ fu fw ⟨dP,bG,bI,dS⟩
 have H:=J8 dP c9
 refine T.norm [2,3] z<|T.fl ?_
 refine Sr<|Vv (V.A3T (j:=0) (by exact G9) z z) ?_
 refine G5 2 z<|T.fl ?_
 refine T.J5 fun fx fy dU=>have bJ:=A7.Z4 dU dS.u; To (O.stF (vs:=[ao,d,f,aq,ar]) G9 z z (j:=1) z z (by (simp only [Sl.ones,G6.one bG,G6.one N,G6.one ad,G6.one bI,G6.one bJ,Bool.and_true,Bool.true_and]) <;> rfl) z ?_)
 refine T.freeze fun fC fD dV=>have dW:=AtC.of dV; Nt<|T.ret<|T.drop ?_
 cases H
 exact T.rl z (RVs.cons (RV.B0y z dW G9) RVs.nil) ⟨_,_,_,_,_,z,z,bG.u,N.u,ad.u,bI.u,bJ.u⟩
end Go.Proofs.X
open Go Go.Proofs Go.Proofs.Tryz Go.Sl Go.Dm
namespace Go.Proofs.X
theorem B8G : N8 prog 39 7 = some 7:=by kernel_rfl
theorem C7x : X9 prog 26 = some (true,4):=by kernel_rfl
theorem C7f : zer prog 44 = some (.agg #[.int .u8 (0),.string ⟨#[]⟩,.string ⟨#[]⟩,.string ⟨#[]⟩,.int .i64 (0),.int .i64 (0),.string ⟨#[]⟩,.bool false,.bool false,.slice none 0 0,.string ⟨#[]⟩,.string ⟨#[]⟩,.string ⟨#[]⟩,.int .i64 (0),.int .u8 (0),.int .i64 (0),.string ⟨#[]⟩,.string ⟨#[]⟩,.string ⟨#[]⟩,.int .i64 (0)]):=by kernel_rfl
theorem C5G : C8S prog 106 = some [(0,.s),(1,.s),(2,.i .u8)]:=by kernel_rfl
theorem B7L {h g d i e j} (c:G6 VS 1 h g d) (f:G6 VS 1 h i e) (H:A6G d e = some j):∀ L,G8 prog 144 [g,i] h (L) (fun v h' L'=>v = .bool j∧L' = L):=by
 intro L
 refine G8.enter func144 z z z<|Sr<|Ag z<|Nt<|Sq<|Sr<|Mv z<|Vv (V.P9 A0a z c)<|Mv z<|Vv (V.P9 A0a z f)<|Vv (V.ne z z)<|Nt<|T.cH H z dead fun H=>Ks<|Sq<|Sr<|Ag z<|Nt ?_
 obtain ⟨k,p,q⟩:=M5 H
 refine T.M7 (α:=Unit) [] z (fun _u=>[]) (fun _u=>L) (fun _u hh=>k = ()) ?_ ?_
 ·have H:=p
  refine Bl<|T.M8 (α:=Nat×Int) [0,1] z (fun ⟨a,b⟩=>[(5,qi b)]) (fun ⟨a,b⟩=>L) (fun ⟨a,b⟩ hh=>iter (A4o d e) a b = some k) (fun ⟨a,b⟩=>a) (FUEL,(0:Int)) ⟨z,trivial⟩ z H ?_
  rintro ⟨a,b⟩ C D r
  obtain ⟨s,E,rfl,H,m⟩:=I1 r
  refine T.norm [5,0,1] z<|T.fl ?_
  refine Sq<|Sr<|Mv z<|Mv z<|Vv (V.P9 A0a z c)<|Vv (V.lt z z)<|Nt<|T.cH H z (fun H=>?_) fun H=>?_
  ·refine Ks<|Sq<|Bl<|Sq<|T.O1 (t:=(.vs [0,1,2,3,4,5,6,7,8] .done)) 10 0 0 z z I4 (by kernel_rfl) ?_
   refine Tm z z<|Tm z z<|bE H fun G n H=>?_
   obtain ⟨I,w,rfl⟩:=G6.at c n
   refine Tv z (V.ix A0a z z c (G7 n))<|Tv z (V.ld0 H9 z w.u z)<|Tm z z<|Tm z z<|bE H fun J o H=>?_
   obtain ⟨K,x,rfl⟩:=G6.at f o
   refine Tv z (V.ix A0a z z f (G7 o))<|Tv z (V.ld0 H9 z x.u z)<|Tv z (V.sne z z)<|T.R7 (SX.two (XA.fr [] Lr z) (XA.fr [] Lr z))<|Th<|T.cH H z dead fun H=>T.skip<|Bn<|Th<|Rg<|Mv z<|bE H fun y A H=>Vv (V.J2 z z A)<|Ag z<|Nt<|T.ag (s,y) (F4 H m)
  refine T.exit<|Te<|Te<|have H:=D9 H m; Be<|Th<|T.mt () H
 rintro _ M N B
 have H:=J8 B q
 refine T.norm [] z<|T.fl ?_
 exact Sr<|Ag z<|Nt<|T.ret<|E1 H
theorem B7y {h c d e f g} (i:F9 h c d) (j:F9 h e f) (H:A6O d f = some g):∀ L,G8 prog 79 [.agg c.toArray,.agg e.toArray] h (L) (fun v h' L'=>v = .bool g∧L' = L):=by
 intro L
 obtain ⟨r,rfl,m⟩:=i
 obtain ⟨s,rfl,n⟩:=j
 refine G8.enter func79 z z z<|Sr<|To (O.Y0 z z z fun t w x a=>To (O.Y0 z z z fun y A B b=>Ag z<|Nt<|Sr<|Vv (V.fa X4 z)<|Vv (V.I9 (k:=0) H9 z a.u z)<|Vv (V.fa X4 z)<|Vv (V.I9 (k:=0) H9 z b z)<|Vv (V.seq z z)<|Mv z<|T.bH 10 H z (fun H=>?_) fun H=>?_))
 ·refine Vv (V.fa A8h z)<|Vv (V.I9 (k:=1) H9 z a.u z)<|Vv (V.fa A8h z)<|Vv (V.I9 (k:=1) H9 z b z)<|Vv (V.seq z z)<|Vv (V.R8 z z)<|Mv z<|T.bH 17 H z (fun H=>?_) fun H=>?_
  ·refine Vv (V.fa A7T z)<|Vv (V.I9 (k:=2) H9 z a.u z)<|Vv (V.fa A7T z)<|Vv (V.I9 (k:=2) H9 z b z)<|Vv (V.seq z z)<|Vv (V.R8 z z)<|Mv z<|T.bH 24 H z (fun H=>?_) fun H=>?_
   ·refine Vv (V.fa A8a z)<|Vv (V.I9 (k:=3) E8 z a.u z)<|Vv (V.fa A8a z)<|Vv (V.I9 (k:=3) E8 z b z)<|Vv (V.eq z z)<|Vv (V.R8 z z)<|Mv z<|T.bH 31 H z (fun H=>?_) fun H=>?_
    ·refine Vv (V.fa A8f z)<|Vv (V.I9 (k:=4) E8 z a.u z)<|Vv (V.fa A8f z)<|Vv (V.I9 (k:=4) E8 z b z)<|Vv (V.eq z z)<|Vv (V.R8 z z)<|Mv z<|T.bH 38 H z (fun H=>?_) fun H=>?_
     ·refine Vv (V.fa A5K z)<|Vv (V.I9 (k:=5) H9 z a.u z)<|Vv (V.fa A5K z)<|Vv (V.I9 (k:=5) H9 z b z)<|Vv (V.seq z z)<|Vv (V.R8 z z)<|Mv z<|T.bH 45 H z (fun H=>?_) fun H=>?_
      ·refine Vv (V.fa B1t z)<|Vv (V.I9 (k:=6) U5 z a.u z)<|Vv (V.fa B1t z)<|Vv (V.I9 (k:=6) U5 z b z)<|Vv (V.beq underlying4 z z)<|Vv (V.R8 z z)<|Mv z<|T.bH 52 H z (fun H=>?_) fun H=>?_
       ·refine Vv (V.fa B8G z)<|Vv (V.I9 (k:=7) U5 z a.u z)<|Vv (V.fa B8G z)<|Vv (V.I9 (k:=7) U5 z b z)<|Vv (V.beq underlying4 z z)<|Vv (V.R8 z z)<|Mv z<|T.bH 59 H z (fun H=>?_) fun H=>?_
        ·refine Vv (V.fa V5 z)<|Vv (V.I9 (k:=8) A0b z a.u z)<|Vv (V.fa V5 z)<|Vv (V.I9 (k:=8) A0b z b z)<|bE H fun C o H=>To (O.D8 z (B7L m.u n.u o _) z fun D E G I p=>?_)
         obtain ⟨rfl,q⟩:=p
         exact J9 _ q<|Vv (V.R8 z z)<|Ag z<|Nt<|T.ret<|E1 H
        exact dead H
       exact dead H
      exact dead H
     exact dead H
    exact dead H
   exact dead H
  exact dead H
 exact dead H
theorem B6r {h i d j e k} (c:G6 F9 9 h i d) (f:G6 F9 9 h j e) (H:A5I d e = some k):∀ L,G8 prog 31 [i,j] h (L) (fun v h' L'=>v = .bool k∧L' = L):=by
 intro L
 refine G8.enter func31 z z z<|Sr<|Ag z<|Nt<|Sq<|Sr<|Mv z<|Vv (V.P9 K8 z c)<|Mv z<|Vv (V.P9 K8 z f)<|Vv (V.ne z z)<|Nt<|T.cH H z dead fun H=>Ks<|Sq<|Sr<|Ag z<|Nt ?_
 obtain ⟨m,q,r⟩:=M5 H
 refine T.M7 (α:=Unit) [] z (fun _u=>[]) (fun _u=>L) (fun _u hh=>m = ()) ?_ ?_
 ·have H:=q
  refine Bl<|T.M8 (α:=Nat×Int) [0,1] z (fun ⟨a,b⟩=>[(5,qi b)]) (fun ⟨a,b⟩=>L) (fun ⟨a,b⟩ hh=>iter (A3J d e) a b = some m) (fun ⟨a,b⟩=>a) (FUEL,(0:Int)) ⟨z,trivial⟩ z H ?_
  rintro ⟨a,b⟩ N P s
  obtain ⟨w,S,rfl,H,n⟩:=I1 s
  refine T.norm [5,0,1] z<|T.fl ?_
  refine Sq<|Sr<|Mv z<|Mv z<|Vv (V.P9 K8 z c)<|Vv (V.lt z z)<|Nt<|T.cH H z (fun H=>?_) fun H=>?_
  ·refine Ks<|Sq<|Bl<|Sq<|T.O1 (t:=(.vs [0,1,2,3,4,5,6,7] (.alt 8 (.g (.v 9 .done)) .no))) 11 0 0 z z I4 (by kernel_rfl) ?_
   refine Tm z z<|Tm z z<|bE H fun U o H=>?_
   obtain ⟨W,x,⟨y,rfl,A⟩⟩:=G6.at c o
   refine Tv z (V.ix K8 z z c (G7 o))<|Tv z (V.ldS z x.u (by exact Z7)) ?_
   refine Tm z z<|Tm z z<|bE H fun X p H=>?_
   obtain ⟨Y,B,⟨C,rfl,D⟩⟩:=G6.at f p
   refine Tv z (V.ix K8 z z f (G7 p))<|Tv z (V.ldS z B.u (by exact Z7)) ?_
   refine bE H fun Z E H=>Tp z z (SX.two (XA.fr [] Lr z) (XA.fr [] Lr z)) (O.D8 z (B7y ⟨y,z,A.u⟩ ⟨C,z,D.u⟩ E _) z fun aa ab ac ad G=>?_) T.O9
   obtain ⟨rfl,I⟩:=G
   refine J9 _ I<|T.O3 Li<|Tv z (V.not z)<|T.R7 (SX.two (XA.fr [] Lr z) (XA.fr [] Lr z))<|Th<|T.cH H z dead fun H=>T.skip<|Bn<|Th<|Rg<|Mv z<|bE H fun J K H=>Vv (V.J2 z z K)<|Ag z<|Nt<|T.ag (w,J) (F4 H n)
  refine T.exit<|Te<|Te<|have H:=D9 H n; Be<|Th<|T.mt () H
 rintro _ ae af M
 have H:=J8 M r
 refine T.norm [] z<|T.fl ?_
 exact Sr<|Ag z<|Nt<|T.ret<|E1 H
theorem B9e {h j d k e m} (c:G6 H7 3 h j d) (f:G6 H7 3 h k e) (H:A7U d e = some m):∀ L,G8 prog 32 [j,k] h (L) (fun v h' L'=>v = .bool m∧L' = L):=by
 intro L
 refine G8.enter func32 z z z<|Sr<|Ag z<|Nt<|Sq<|Sr<|Mv z<|Vv (V.P9 X3 z c)<|Mv z<|Vv (V.P9 X3 z f)<|Vv (V.ne z z)<|Nt<|T.cH H z dead fun H=>Ks<|Sq<|Sr<|Ag z<|Nt ?_
 obtain ⟨n,s,w⟩:=M5 H
 refine T.M7 (α:=Unit) [] z (fun _u=>[]) (fun _u=>L) (fun _u hh=>n = ()) ?_ ?_
 ·have H:=s
  refine Bl<|T.M8 (α:=Nat×Int) [0,1] z (fun ⟨a,b⟩=>[(5,qi b)]) (fun ⟨a,b⟩=>L) (fun ⟨a,b⟩ hh=>iter (A5f d e) a b = some n) (fun ⟨a,b⟩=>a) (FUEL,(0:Int)) ⟨z,trivial⟩ z H ?_
  rintro ⟨a,b⟩ G I x
  obtain ⟨y,J,rfl,H,o⟩:=I1 x
  refine T.norm [5,0,1] z<|T.fl ?_
  refine Sq<|Sr<|Mv z<|Mv z<|Vv (V.P9 X3 z c)<|Vv (V.lt z z)<|Nt<|T.cH H z (fun H=>?_) fun H=>?_
  ·refine Ks<|Sq<|Bl<|Sq<|T.O1 (t:=(.vs [0,1,2,3,4,5,6,7,8] .done)) 10 0 0 z z I4 (by kernel_rfl) ?_
   refine Tm z z<|Tm z z<|bE H fun g p H=>?_
   obtain ⟨K,A,rfl⟩:=G6.at c p
   refine Tv z (V.ix X3 z z c (G7 p))<|Tv z (V.ldS z A.u (by exact A0G)) ?_
   refine Tm z z<|Tm z z<|bE H fun i q H=>?_
   obtain ⟨M,B,rfl⟩:=G6.at f q
   refine Tv z (V.ix X3 z z f (G7 q))<|Tv z (V.ldS z B.u (by exact A0G)) ?_
   refine Tv z (V.D1F C5G z z (r:=(decide (g.fA = i.fA) && (decide (g.fB = i.fB) && (decide (g.H8 = i.H8) && true)))) z)<|T.R7 (SX.two (XA.fr [] Lr z) (XA.fr [] Lr z))<|Th<|T.cH H z dead fun H=>T.skip<|Bn<|Th<|Rg<|Mv z<|bE H fun C D H=>Vv (V.J2 z z D)<|Ag z<|Nt<|T.ag (y,C) (F4 H o)
  refine T.exit<|Te<|Te<|have H:=D9 H o; Be<|Th<|T.mt () H
 rintro _ N O E
 have H:=J8 E w
 refine T.norm [] z<|T.fl ?_
 exact Sr<|Ag z<|Nt<|T.ret<|E1 H
theorem B7M {h c d e f g} (i:F7 h c d) (j:F7 h e f) (H:A6B d f = some g):∀ L,G8 prog 78 [.agg c.toArray,.agg e.toArray] h (L) (fun v h' L'=>v = .bool g∧L' = L):=by
 intro L
 obtain ⟨r,rfl,m⟩:=i
 obtain ⟨s,rfl,n⟩:=j
 refine G8.enter func78 z z z<|Sr<|To (O.Y0 z z z fun t w x a=>To (O.Y0 z z z fun y A B b=>Ag z<|Nt<|Sr<|Vv (V.fa A0K z)<|Vv (V.I9 (k:=0) H9 z a.u z)<|Vv (V.fa A0K z)<|Vv (V.I9 (k:=0) H9 z b z)<|Vv (V.seq z z)<|Mv z<|T.bH 10 H z (fun H=>?_) fun H=>?_))
 ·refine Vv (V.fa A2r z)<|Vv (V.I9 (k:=1) A4u z a.u z)<|Vv (V.fa A2r z)<|Vv (V.I9 (k:=1) A4u z b z)<|Vv (V.eq z z)<|Vv (V.R8 z z)<|Mv z<|T.bH 17 H z (fun H=>?_) fun H=>?_
  ·refine Vv (V.fa A0l z)<|Vv (V.I9 (k:=2) E8 z a.u z)<|Vv (V.fa A0l z)<|Vv (V.I9 (k:=2) E8 z b z)<|Vv (V.eq z z)<|Vv (V.R8 z z)<|Mv z<|T.bH 24 H z (fun H=>?_) fun H=>?_
   ·refine Vv (V.fa A0V z)<|Vv (V.I9 (k:=3) E8 z a.u z)<|Vv (V.fa A0V z)<|Vv (V.I9 (k:=3) E8 z b z)<|Vv (V.eq z z)<|Vv (V.R8 z z)<|Mv z<|T.bH 31 H z (fun H=>?_) fun H=>?_
    ·refine Vv (V.fa A9I z)<|Vv (V.I9 (k:=5) E8 z a.u z)<|Vv (V.fa A9I z)<|Vv (V.I9 (k:=5) E8 z b z)<|Vv (V.eq z z)<|Vv (V.R8 z z)<|Mv z<|T.bH 38 H z (fun H=>?_) fun H=>?_
     ·refine Vv (V.fa A9f z)<|Vv (V.I9 (k:=6) E8 z a.u z)<|Vv (V.fa A9f z)<|Vv (V.I9 (k:=6) E8 z b z)<|Vv (V.eq z z)<|Vv (V.R8 z z)<|Mv z<|T.bH 45 H z (fun H=>?_) fun H=>?_
      ·refine Vv (V.fa X6 z)<|Vv (V.I9 (k:=4) E5 z a.u z)<|Vv (V.fa X6 z)<|Vv (V.I9 (k:=4) E5 z b z)<|bE H fun C o H=>To (O.D8 z (A0z m.u n.u o _) z fun D E G I p=>?_)
       obtain ⟨rfl,q⟩:=p
       exact J9 _ q<|Vv (V.R8 z z)<|Ag z<|Nt<|T.ret<|E1 H
      exact dead H
     exact dead H
    exact dead H
   exact dead H
  exact dead H
 exact dead H
theorem B6n {h i d j e k} (c:G6 F7 7 h i d) (f:G6 F7 7 h j e) (H:A6f d e = some k):∀ L,G8 prog 30 [i,j] h (L) (fun v h' L'=>v = .bool k∧L' = L):=by
 intro L
 refine G8.enter func30 z z z<|Sr<|Ag z<|Nt<|Sq<|Sr<|Mv z<|Vv (V.P9 N9 z c)<|Mv z<|Vv (V.P9 N9 z f)<|Vv (V.ne z z)<|Nt<|T.cH H z dead fun H=>Ks<|Sq<|Sr<|Ag z<|Nt ?_
 obtain ⟨m,q,r⟩:=M5 H
 refine T.M7 (α:=Unit) [] z (fun _u=>[]) (fun _u=>L) (fun _u hh=>m = ()) ?_ ?_
 ·have H:=q
  refine Bl<|T.M8 (α:=Nat×Int) [0,1] z (fun ⟨a,b⟩=>[(5,qi b)]) (fun ⟨a,b⟩=>L) (fun ⟨a,b⟩ hh=>iter (A3N d e) a b = some m) (fun ⟨a,b⟩=>a) (FUEL,(0:Int)) ⟨z,trivial⟩ z H ?_
  rintro ⟨a,b⟩ N P s
  obtain ⟨w,S,rfl,H,n⟩:=I1 s
  refine T.norm [5,0,1] z<|T.fl ?_
  refine Sq<|Sr<|Mv z<|Mv z<|Vv (V.P9 N9 z c)<|Vv (V.lt z z)<|Nt<|T.cH H z (fun H=>?_) fun H=>?_
  ·refine Ks<|Sq<|Bl<|Sq<|T.O1 (t:=(.vs [0,1,2,3,4,5,6,7] (.alt 8 (.g (.v 9 .done)) .no))) 11 0 0 z z I4 (by kernel_rfl) ?_
   refine Tm z z<|Tm z z<|bE H fun U o H=>?_
   obtain ⟨W,x,⟨y,rfl,A⟩⟩:=G6.at c o
   refine Tv z (V.ix N9 z z c (G7 o))<|Tv z (V.ldS z x.u (by exact L9)) ?_
   refine Tm z z<|Tm z z<|bE H fun X p H=>?_
   obtain ⟨Y,B,⟨C,rfl,D⟩⟩:=G6.at f p
   refine Tv z (V.ix N9 z z f (G7 p))<|Tv z (V.ldS z B.u (by exact L9)) ?_
   refine bE H fun Z E H=>Tp z z (SX.two (XA.fr [] Lr z) (XA.fr [] Lr z)) (O.D8 z (B7M ⟨y,z,A.u⟩ ⟨C,z,D.u⟩ E _) z fun aa ab ac ad G=>?_) T.O9
   obtain ⟨rfl,I⟩:=G
   refine J9 _ I<|T.O3 Li<|Tv z (V.not z)<|T.R7 (SX.two (XA.fr [] Lr z) (XA.fr [] Lr z))<|Th<|T.cH H z dead fun H=>T.skip<|Bn<|Th<|Rg<|Mv z<|bE H fun J K H=>Vv (V.J2 z z K)<|Ag z<|Nt<|T.ag (w,J) (F4 H n)
  refine T.exit<|Te<|Te<|have H:=D9 H n; Be<|Th<|T.mt () H
 rintro _ ae af M
 have H:=J8 M r
 refine T.norm [] z<|T.fl ?_
 exact Sr<|Ag z<|Nt<|T.ret<|E1 H
theorem B6d {h c d e f g} (i:M3 h c d) (j:M3 h e f) (H:A5d d f = some g):∀ L,G8 prog 8 [.agg c.toArray,.agg e.toArray] h (L) (fun v h' L'=>v = .bool g∧L' = L):=by
 intro L
 obtain ⟨W,X,Y,Z,aa,rfl,m,n,o,p,q⟩:=i
 obtain ⟨ab,ac,ad,ae,af,rfl,r,s,t,w,x⟩:=j
 refine G8.enter func8 z z z<|Sr<|To (O.Y0 z z z fun ag ai aj a=>To (O.Y0 z z z fun ak am an b=>Ag z<|Nt<|Sr<|Vv (V.fa J4 z)<|Vv (V.I9 (k:=0) M0 z a.u z)<|Vv (V.fa J4 z)<|Vv (V.I9 (k:=0) M0 z b z)<|bE H fun ao y H=>To (O.D8 z (B6n m.u r.u y _) z fun ap aq ar au A=>?_)))
 obtain ⟨rfl,B⟩:=A
 refine J9 _ B<|Mv z<|T.bH 10 H z (fun H=>?_) fun H=>?_
 ·refine Vv (V.fa K3 z)<|Vv (V.I9 (k:=1) I7 z a.u z)<|Vv (V.fa K3 z)<|Vv (V.I9 (k:=1) I7 z b.u z)<|bE H fun aw C H=>To (O.D8 z (B6r n.u s.u C _) z fun ax ay aA aB D=>?_)
  obtain ⟨rfl,E⟩:=D
  refine J9 _ E<|Vv (V.R8 z z)<|Mv z<|T.bH 17 H z (fun H=>?_) fun H=>?_
  ·refine Vv (V.fa Y5 z)<|Vv (V.I9 (k:=2) Q4 z a.u z)<|Vv (V.fa Y5 z)<|Vv (V.I9 (k:=2) Q4 z b.u z)<|bE H fun aC G H=>To (O.D8 z (B9e o.u t.u G _) z fun aD aE aG aI I=>?_)
   obtain ⟨rfl,J⟩:=I
   refine J9 _ J<|Vv (V.R8 z z)<|Mv z<|T.bH 24 H z (fun H=>?_) fun H=>?_
   ·refine Vv (V.fa Y3 z)<|Vv (V.I9 (k:=3) E5 z a.u z)<|Vv (V.fa Y3 z)<|Vv (V.I9 (k:=3) E5 z b.u z)<|bE H fun aJ K H=>To (O.D8 z (A0z p.u w.u K _) z fun aK aM aN aO M=>?_)
    obtain ⟨rfl,N⟩:=M
    refine J9 _ N<|Vv (V.R8 z z)<|Mv z<|T.bH 31 H z (fun H=>?_) fun H=>?_
    ·refine Vv (V.fa P6 z)<|Vv (V.I9 (k:=4) O7 z a.u z)<|Vv (V.fa P6 z)<|Vv (V.I9 (k:=4) O7 z b.u z)<|bE H fun aP P H=>To (O.D8 z (B0v q.u x.u P _) z fun aS aU aV aW S=>?_)
     obtain ⟨rfl,U⟩:=S
     exact J9 _ U<|Vv (V.R8 z z)<|Ag z<|Nt<|T.ret<|E1 H
    exact dead H
   exact dead H
  exact dead H
 exact dead H
theorem C4D {h a b c} (H:B3U a b = some c):∀ L,G8 prog 15 [.int .i64 a,.int .i64 b] h (L) (fun v h' L'=>v = .int .i64 c∧L' = L):=by
 intro L
 refine G8.enter func15 z z z<|Sr<|Ag z<|Nt<|Sr<|Mv z<|Mv z<|bE H fun f d H=>Vv (V.A1a z z d)<|Ag z<|Nt<|Sq<|Sr<|Mv z<|Vv (V.lt z z)<|Nt<|T.cH H z (fun H=>?_) fun H=>?_
 ·exact Rg<|Mv z<|Mv z<|bE H fun g e H=>Vv (V.J2 z z e)<|Ag z<|Nt<|Sr<|Mv z<|Ag z<|Nt<|T.ret<|E1 H
 exact Ks<|Sr<|Mv z<|Ag z<|Nt<|T.ret<|E1 H
theorem B7V {h f p1 g} (o:M3 h f p1) (H:A7c p1 = some g):∀ L,G8 prog 14 [.agg f.toArray] h (L) (fun v h' L'=>v = .int .i64 g∧L' = L):=by
 intro L
 obtain ⟨I,J,K,M,N,rfl,e,P,S,U,W⟩:=o
 refine G8.enter func14 z z z<|Sr<|To (O.Y0 z z z fun X Y Z i=>Ag z<|Nt<|Sr<|Ag z<|Nt<|Sq<|Sr<|Ag z<|Nt ?_)
 obtain ⟨j,p,q⟩:=M5 H
 refine T.M7 (α:=Int) [] z (fun d=>[(3,qi d)]) (fun d=>L) (fun d hh=>j = d) ?_ ?_
 ·have H:=p
  refine Bl<|T.M8 (α:=Nat×Int×Int) [1] z (fun ⟨b,a,c⟩=>[(3,qi a),(4,qi c)]) (fun ⟨b,a,c⟩=>L) (fun ⟨b,a,c⟩ hh=>iter (A2X p1) b (a,c) = some j) (fun ⟨b,a,c⟩=>b) (FUEL,(0:Int),(0:Int)) ⟨z,z,trivial⟩ z H ?_
  rintro ⟨b,a,c⟩ aa ab r
  obtain ⟨s,ac,rfl,H,m⟩:=I1 r
  refine T.norm [3,4,1] z<|T.fl ?_
  refine Sq<|Sr<|Mv z<|Vv (V.fa J4 z)<|Vv (V.I9 (k:=0) M0 z i.u z)<|Vv (V.P9 N9 z e)<|Vv (V.lt z z)<|Nt<|T.cH H z (fun H=>?_) fun H=>?_
  ·refine Ks<|Sq<|Bl<|Rg<|Mv z<|Vv (V.fa J4 z)<|Vv (V.I9 (k:=0) M0 z i.u z)<|Mv z<|bE H fun ad n H=>?_
   obtain ⟨ae,t,⟨w,rfl,af⟩⟩:=G6.at e n
   refine Vv (V.ix N9 z z e (G7 n))<|Vv (V.ldS z t.u (by exact L9)) ?_
   refine bE H fun ai x H=>To (O.D8 z (A1W ⟨w,z⟩ x _) z fun aj ak am an y=>?_)
   obtain ⟨rfl,A⟩:=y
   refine J9 _ A<|bE H fun B C H=>Vv (V.J2 z z C)<|Ag z<|Ni<|Bn<|Th<|Rg<|Mv z<|bE H fun D E H=>Vv (V.J2 z z E)<|Ag z<|Nt<|T.ag (s,B,D) (F4 H m)
  refine T.exit<|Te<|Te<|have H:=D9 H m; Be<|Th<|T.mt a H
 rintro d ao ap G
 have H:=J8 G q
 refine T.norm [3] z<|T.fl ?_
 exact Sr<|Mv z<|Ag z<|Nt<|T.ret<|E1 H
theorem C0R {h d e f g m q_0} (a:A7 VB h e f) (H:A7z f g = some (m,q_0)):∀ L,G8 prog 16 [d,.int .i64 g] h (D5 4 1 d e::L) (fun v h' L'=>∃ n,v = .int .i64 m∧L' = D5 4 1 d n::L∧A7 VB h' n q_0):=by
 intro L
 refine G8.enter func16 z z z<|Sr<|Ag z<|Nt<|Sq<|Sr<|Ag z<|Nt ?_
 obtain ⟨o,s,p⟩:=M5 H
 refine T.M7 (α:=Unit) [0] z (fun _u=>[]) (fun _u=>D5 4 1 d e::L) (fun _u hh=>o = (Sum.inl ())) ?_ ?_
 ·have H:=s
  refine Bl<|T.M8 (α:=Nat×Int) [0,1] z (fun ⟨b,c⟩=>[(5,qi c)]) (fun ⟨b,c⟩=>D5 4 1 d e::L) (fun ⟨b,c⟩ hh=>iter (A6b f g) b c = some o) (fun ⟨b,c⟩=>b) (FUEL,(0:Int)) ⟨z,trivial⟩ z H ?_
  rintro ⟨b,c⟩ q K t
  obtain ⟨w,M,rfl,H,i⟩:=I1 t
  refine T.norm [5,0,1] z<|T.fl ?_
  refine Sq<|Sr<|Mv z<|Mv z<|Vv (V.A2a A0F z (j:=0) z a.len)<|Vv (V.lt z z)<|Nt<|T.cH H z (fun H=>?_) fun H=>?_
  ·refine Ks<|Sq<|Bl<|Sr<|Mv z<|Mv z<|bE H fun N x H=>Vv (V.J2 z z x)<|Mv z<|Vv (V.A2a A0F z (j:=0) z a.len)<|bE H fun y A H=>Vv (V.A1a z z A)<|Ag z<|Nt<|Sr<|Mv z<|Mv z<|bE H fun P r H=>?_
   obtain ⟨S,B,rfl⟩:=A7.get a r
   refine Vv (V.ixR A0F z z (j:=0) z (A7.bd a r))<|Vv (V.ldR U5 z (j:=0) z B z)<|Vv (V.not z)<|Nt<|T.cH H z (fun H=>?_) fun H=>?_
   ·refine Sr<|Mv z<|Mv z<|bE H fun U k H=>?_
    obtain ⟨W,X,rfl⟩:=A7.get a k
    refine Vv (V.ixR A0F z z (j:=0) z (A7.bd a k))<|bE H fun C D H=>To (O.stR U5 z z (j:=0) z (A7.bdN a k) z<|have E:A7 VB q (e.set y.toNat [.bool true]) C:=A7.set a.u (show VB q [.bool true] true from z) D; Nt<|Sr<|Mv z<|Ag z<|Nt<|T.ret<|Br<|Tr<|Tr<|have H:=D9 H i; Br<|Tr<|have H:=J8 H p; ?_)
    cases H
    exact T.rl z (Rv z) ⟨_,z,z,E⟩
   refine T.skip<|Bn<|Th<|Rg<|Mv z<|bE H fun G I H=>Vv (V.J2 z z I)<|Ag z<|Nt<|T.ag (w,G) (F4 H i)
  refine T.exit<|Te<|Te<|have H:=D9 H i; Be<|Th<|T.mt () H
 rintro _ Y Z J
 have H:=J8 J p
 refine T.norm [0] z<|T.fl ?_
 refine Sr<|Ag z<|Nt<|T.ret ?_
 cases H
 exact T.rl z (Rv z) ⟨_,z,z,a.u⟩
theorem B8T {h A p1 B q C} (ab:M3 h A p1) (r:G6 (VI .i64) 1 h B q) (H:A7Z p1 q = some C):∀ L,G8 prog 5 [.agg A.toArray,B] h (L) (fun v h' L'=>∃ D,L' = D5 3 1 v D::L∧A7 (VI .i64) h' D C):=by
 intro L
 obtain ⟨ac,ad,ae,af,ai,rfl,aj,G,ak,am,an⟩:=ab
 refine G8.enter func5 z z z<|Sr<|To (O.Y0 z z z fun a9 ah al I=>Ag z<|Nt<|Sr<|Vv (V.ldS z I (by exact G9)) ?_)
 refine bE H fun s ao H=>To (O.D8 z (B7V ⟨ac,ad,ae,af,ai,z,aj.u,G.u,ak.u,am.u,an.u⟩ ao _) z fun av J az ba aq=>?_)
 obtain ⟨rfl,ar⟩:=aq
 refine J9 _ ar<|Ag z<|Nt<|Sr<|Mv z<|bE H fun K M H=>To (O.mkX A0F A6l z z z z M z fun t bb bc=>have au:A7 VB J _ K:=A7.rep z M; Ag z<|Nt<|Sr<|Ag z<|Nt<|Sq<|Sr<|Ag z<|Nt ?_)
 obtain ⟨N,aw,ax⟩:=M5 H
 refine T.M7 (α:=(List Int)×Value×(List (List Value))) [] z (fun ⟨i,m,n⟩=>[(7,m)]) (fun ⟨i,m,n⟩=>D5 3 1 m n::L) (fun ⟨i,m,n⟩ hh=>N = i∧A7 (VI .i64) hh n i) ?_ ?_
 ·have H:=aw
  refine Bl<|T.U9 3 1<|have ay:A7 (VI .i64) J [] ([]:List Int):=A7.nil; G5 1 z<|T.M8 (α:=Nat×(List Bool)×(List Int)×Int×(List (List Value))×Value×(List (List Value))) [1,2,5] z (fun ⟨f,d,e,g,b,c,a⟩=>[(6,t),(7,c),(8,qi g)]) (fun ⟨f,d,e,g,b,c,a⟩=>D5 4 1 t b::D5 3 1 c a::L) (fun ⟨f,d,e,g,b,c,a⟩ hh=>iter (A5b p1 q s) f (d,e,g) = some N∧A7 VB hh b d∧A7 (VI .i64) hh a e) (fun ⟨f,d,e,g,b,c,a⟩=>f) (FUEL,K,([]:List Int),(0:Int),(List.replicate s.toNat [.bool false]),(qs),[]) ⟨z,z,z,trivial⟩ z ⟨H,au,ay⟩ ?_
  rintro ⟨f,d,e,g,b,c,a⟩ bd be ⟨aA,P,o⟩
  obtain ⟨S,bf,rfl,H,w⟩:=I1 aA
  refine T.norm [6,7,8,1,2,5] z<|T.fl ?_
  refine Sq<|Sr<|Mv z<|Vv (V.fa K3 z)<|Vv (V.I9 (k:=1) I7 z I.u z)<|Vv (V.P9 K8 z G)<|Vv (V.lt z z)<|Nt<|T.cH H z (fun H=>?_) fun H=>?_
  ·refine Ks<|Sq<|Bl<|Sr<|Mv z<|Ag z<|Nt<|Sq<|Sr<|Mv z<|Mv z<|Vv (V.P9 C9 z r)<|Vv (V.lt z z)<|Nt ?_
   obtain ⟨aB,aC,aD⟩:=M5 H
   refine T.M7 (α:=Int) [1,2,5,6,7,8] z (fun p=>[(9,qi p)]) (fun p=>D5 4 1 t b::D5 3 1 c a::L) (fun p hh=>aB = p) ?_ ?_
   ·have H:=aC
    refine T.cH H z (fun H=>?_) fun H=>?_
    ·refine Rg<|Mv z<|Mv z<|bE H fun bg U H=>?_
     obtain ⟨bi,aE,rfl⟩:=G6.at r U
     refine Vv (V.ix C9 z z r (G7 U))<|Vv (V.ld0 E8 z aE.u z)<|Mv z<|bE H fun bj aG H=>Vv (V.J2 z z aG)<|bE H fun aI aJ H=>To (O.D8 z (C4D aJ _) z fun bk bm bn bo aK=>?_)
     obtain ⟨rfl,aM⟩:=aK
     refine J9 _ aM<|Ag z<|Nt<|T.mt aI (O5 H)
    refine Ks<|T.mt s (O5 H)
   rintro p aN bp aO
   have H:=J8 aO aD
   refine T.norm [9,1,2,5,6,7,8] z<|T.fl ?_
   refine Sr<|Mv z<|Mv z<|Vv (V.eq z z)<|Nt<|T.cH H z (fun H=>?_) fun H=>?_
   ·refine Rg<|Mv z<|To (O.b1 (E:=VI .i64) C9 M9 z z z z z fun bq x=>bE H fun W X H=>To (O.apX C9 C9 M9 z z z (j:=2) z (Src.row (j:=0) z) (O4.of z) (A7.ones VI.plain x) o.u x X z fun aP br bs=>have aS:A7 (VI .i64) aN (a ++ [[qi (-1)]]) W:=A7.ap o.u x X; T.fl ?_))
    refine G5 1 z<|T.fl ?_
    refine T.drop<|Ag z<|Ni<|Bn<|Th<|Rg<|Mv z<|bE H fun aU aV H=>Vv (V.J2 z z aV)<|Ag z<|Nt<|G5 1 z<|T.ag (S,d,W,aU,b,aP,(a ++ [[qi (-1)]])) ⟨(F4 H w),P.u,aS⟩
   refine Rg<|Mv z<|Mv z<|Mv z<|bE H fun ⟨Y,aW⟩ aX H=>To (O.D8 z (C0R P.u aX _) z fun bt aY bu bw aZ=>?_)
   obtain ⟨a0,rfl,a1,a2⟩:=aZ
   refine J9 _ a1<|To (O.b1 (E:=VI .i64) C9 M9 z z z z z fun bx y=>bE H fun Z aa H=>To (O.apX C9 C9 M9 z z z (j:=2) z (Src.row (j:=0) z) (O4.of z) (A7.ones VI.plain y) o.u y aa z fun a3 bA bB=>have a4:A7 (VI .i64) aY (a ++ [[qi Y]]) Z:=A7.ap o.u y aa; T.fl ?_))
   refine G5 1 z<|T.fl ?_
   refine T.drop<|Ag z<|Ni<|Bn<|Th<|Rg<|Mv z<|bE H fun a5 a6 H=>Vv (V.J2 z z a6)<|Ag z<|Nt<|G5 1 z<|T.ag (S,aW,Z,a5,a0,a3,(a ++ [[qi Y]])) ⟨(F4 H w),a2,a4⟩
  refine T.exit<|Te<|Te<|have H:=D9 H w; Be<|Th<|T.drop<|T.mt (e,c,a) ⟨H,o⟩
 rintro ⟨i,m,n⟩ bC bD ⟨a7,a8⟩
 have H:=J8 a7 ax
 refine T.norm [7] z<|T.fl ?_
 refine Sr<|Mv z<|Ag z<|Nt<|T.ret ?_
 cases H
 exact T.rl z (Rv z) ⟨_,z,a8⟩
theorem B4E {h A B C D E g G I} (an:A1h h A B) (ao:G6 (VI .i64) 1 h C D) (H:A6n B D E g G = some I):∀ L,G8 prog 3 [.agg A.toArray,C,.int .u8 E,.bool g,.int .u8 G] h (L) (fun v h' L'=>v = .bool I∧L' = L):=by
 intro L
 obtain ⟨ap,aq,ar,au,rfl,aw,ax,ay,aA⟩:=an
 refine G8.enter func3 z z z<|Sr<|To (O.Y0 z z z fun bG bI bJ aB=>Ag z<|Nt<|Sr<|Vv (V.ldS z aB (by exact C7x)) ?_)
 obtain ⟨bK,aC,H⟩:=bnd H
 refine To (O.D8 z (C1W ⟨ap,aq,ar,au,z,aw.u,ax.u,ay.u,aA.u⟩ aC _) z fun bM bN bO bP aD=>?_)
 obtain ⟨i,m,n,o,p,rfl,aE,q,a,r,b,s⟩:=aD
 refine J9 _ aE<|To (O.alloc A0p z z fun bS=>To (O.stF (vs:=[i,m,n,o,p]) G9 z z (j:=0) z z (by (simp only [Sl.ones,G6.one q,G6.one a,G6.one r,G6.one b,G6.one s,Bool.and_true,Bool.true_and]) <;> rfl) z ?_))
 refine T.freeze fun bU bV aG=>have c:=AtC.of aG; Nt<|Sr<|Vv (V.ldS z c (by exact G9)) ?_
 refine Mv z ?_
 obtain ⟨bW,aI,H⟩:=bnd H
 refine To (O.D8 z (B8T ⟨i,m,n,o,p,z,q.u,a.u,r.u,b.u,s.u⟩ ao.u aI _) z fun aJ aK bX bY aM=>?_)
 obtain ⟨aN,aO,aP⟩:=aM
 refine J9 _ aO<|Ag z<|Nt<|Sr<|Mv z ?_
 obtain ⟨bZ,aS,H⟩:=bnd H
 refine Vv (V.A1a z z aS) ?_
 obtain ⟨J,aU,H⟩:=bnd H
 refine Vv (V.A4v underlying5 underlying3 z aU)<|Mv z<|To (O.bs A0a B7X z (e:=z) (hk:=z) (xs:=[.const (.string ⟨#[97,97]⟩)]) (hv:=CO.eq (CO.cons z CO.nil)) (hw:=O4.of z) (hd:=z) fun t=>have aV:A7 VS aK [[.string (⟨#[97,97]⟩:ByteArray)]] ([(⟨#[97,97]⟩:ByteArray)]:List ByteArray):=(A7.cons z A7.nil); T.J7 0 z fun b0 aW=>Vv (V.bld (xs:=[(0,.const (.string ⟨#[110,101,119,99,111,109,101,114]⟩)),(4,.tmp 26),(6,.tmp 27),(8,.tmp 28)]) (cs:=[_,_,_,_,_,_,_,_,_]) A3d A3f z (F3.cons z z z (F3.cons z z z (F3.cons z z z (F3.cons z aW z F3.nil)))))<|Vv (V.bld (xs:=[(0,.const (.int .u8 (1))),(1,.tmp 29)]) (cs:=[_,_,_,_,_,_,_,_,_,_,_,_,_,_,_,_,_,_,_,_]) A8b A8i z (F3.cons z z z (F3.cons z z z F3.nil)))<|To (O.alloc C7f z z fun aX=>T.J7 1 z fun aY b1=>To (O.stF (vs:=[.int .u8 1,.string (⟨#[110,101,119,99,111,109,101,114]⟩:ByteArray),.string qe,.string qe,qi 0,qi J,.string qe,.bool g,.bool false,(.slice (some ⟨t,0,none⟩) 1 1),.string qe,.string qe,.string qe,qi 0,.int .u8 0,qi 0,.string qe,.string qe,.string qe,qi 0]) A7l z z (j:=0) z z (by (simp only [Sl.ones,aY,Bool.and_true,Bool.true_and]) <;> rfl) z ?_)))
 refine T.fl ?_
 refine Nt<|Sq<|Sr<|Vv (V.fa Y3 z)<|Vv (V.I9 (k:=3) E5 z c.u z)<|Vv (V.P9 C9 z b)<|Vv (V.gt z z)<|Nt ?_
 obtain ⟨aZ,a0,a1⟩:=M5 H
 refine T.M7 (α:=Int) [11,12,13] z (fun d=>[]) (fun d=>blk aX (.cells [.int .u8 1,.string (⟨#[110,101,119,99,111,109,101,114]⟩:ByteArray),.string qe,.string qe,qi 0,qi J,.string qe,.bool g,.bool false,(.slice (some ⟨t,0,none⟩) 1 1),.string qe,.string qe,.string qe,qi d,.int .u8 0,qi 0,.string qe,.string qe,.string qe,qi 0].toArray 44)::D5 9 1 (.slice (some ⟨t,0,none⟩) 1 1) [[.string (⟨#[97,97]⟩:ByteArray)]]::D5 3 1 aJ aN::L) (fun d hh=>aZ = d) ?_ ?_
 ·have H:=a0
  refine T.cH H z (fun H=>?_) fun H=>?_
  ·refine Rg<|Mv z ?_
   obtain ⟨b2,a2,H⟩:=bnd H
   refine Vv (V.A1a z z a2) ?_
   obtain ⟨K,a3,H⟩:=bnd H
   refine Vv (V.A4v underlying5 underlying3 z a3)<|Vv (V.fa A6Y z)<|To (O.st (vs:=[qi K]) (k:=13) E8 z z (j:=0) z z z<|T.fl ?_)
   refine Nt<|T.mt K (O5 H)
  refine Ks<|T.mt (0:Int) (O5 H)
 rintro d b3 b4 a4
 have H:=J8 a4 a1
 refine T.norm [11,12,13] z<|T.fl ?_
 refine Sr<|Vv (V.ldS z c.u (by exact G9)) ?_
 refine Mv z<|Vv (V.A3T (j:=0) (by exact A7l) z z) ?_
 refine G5 2 z<|T.fl ?_
 refine T.J5 fun b5 b6 a5=>have w:=A7.Z4 a5 aP.u; G5 1 z<|T.J5 fun b7 b8 a6=>have a7:=A7.Z4 a6 aV.u; ?_
 obtain ⟨⟨b9,bh,bl⟩,a8,H⟩:=bnd H
 refine To (O.D8 z (A5h ⟨i,m,n,o,p,z,q.u,a.u,r.u,b.u,s.u⟩ w.u ⟨(.slice (some ⟨t,0,none⟩) 1 1),z,a7⟩ a8 _) z fun bv bz ca cb a9=>?_)
 obtain ⟨M,N,P,S,U,cc,cd,rfl,ah,W,x,X,Y,Z,f⟩:=a9
 refine J9 _ ah<|Mv z<|Vv (V.ext z z)<|Vv (V.ext z z)<|Vv (V.ext z z)<|To (O.alloc A0p z z fun ce=>To (O.stF (vs:=[M,N,P,S,U]) G9 z z (j:=0) z z (by (simp only [Sl.ones,G6.one W,G6.one x,G6.one X,G6.one Y,G6.one Z,Bool.and_true,Bool.true_and]) <;> rfl) z ?_))
 refine T.fl ?_
 refine T.freeze fun cf cg al=>have y:=AtC.of al; Ag z<|Ag z<|Nt<|Sq<|Sr<|Mv z<|Vv (V.eq z z)<|Nt<|T.cH H z (fun H=>?_) fun H=>?_
 ·refine Sr<|Vv (V.fa K3 z)<|Vv (V.I9 (k:=1) I7 z y z)<|Vv (V.P9 K8 z x)<|Mv z<|Vv (V.A2a C9 z (j:=0) z f.len) ?_
  obtain ⟨ci,av,H⟩:=bnd H
  refine Vv (V.J2 z z av)<|Vv (V.eq z z)<|Mv z<|T.bH 56 H z (fun H=>?_) fun H=>?_
  ·obtain ⟨cj,az,H⟩:=bnd H
   refine To (O.D8 z (B3C az _) z fun ck cm cn co ba=>?_)
   obtain ⟨rfl,bb⟩:=ba
   exact J9 _ bb<|Vv (V.R8 z z)<|Ag z<|Nt<|T.ret<|Tr<|T.drop<|T.drop<|E1 H
  exact dead H
 refine Ks<|Sq<|Sr<|Mv z<|Vv (V.ne z z)<|Mv z<|T.bH 61 H z dead fun H=>Vv (V.fa K3 z)<|Vv (V.I9 (k:=1) I7 z y z)<|Vv (V.P9 K8 z x)<|Vv (V.fa K3 z)<|Vv (V.I9 (k:=1) I7 z c.u z)<|Vv (V.P9 K8 z a) ?_
 obtain ⟨cp,bc,H⟩:=bnd H
 refine Vv (V.J2 z z bc)<|Vv (V.ne z z)<|Vv (V.R9 z z)<|Mv z<|T.bH 71 H z dead fun H=>Mv z<|Vv (V.A2a C9 z (j:=0) z f.len)<|Mv z<|Vv (V.P9 C9 z w) ?_
 obtain ⟨cq,be,H⟩:=bnd H
 refine Vv (V.J2 z z be)<|Vv (V.ne z z)<|Vv (V.R9 z z)<|Mv z<|T.bH 79 H z dead fun H=>Mv z<|Mv z<|Vv (V.P9 C9 z w) ?_
 obtain ⟨cr,aa,H⟩:=bnd H
 obtain ⟨ct,bf,rfl⟩:=A7.get f aa
 refine Vv (V.ixR C9 z z (j:=0) z (A7.bd f aa))<|Vv (V.ldR E8 z (j:=0) z bf z)<|Vv (V.ne z z)<|Vv (V.R9 z z)<|Nt<|T.cH H z dead fun H=>Ks<|Sq<|T.norm [11,12,14,15] z<|T.fl ?_
 refine Rg<|Vv (V.ldS z y (by exact G9)) ?_
 refine Mv z<|Vv (V.bld (xs:=[(0,.const (.int .u8 (2))),(2,.const (.string ⟨#[110,101,119,99,111,109,101,114]⟩))]) (cs:=[_,_,_,_,_,_,_,_,_,_,_,_,_,_,_,_,_,_,_,_]) A8b A8i z (F3.cons z z z (F3.cons z z z F3.nil)))<|T.J5 fun cu cw bg=>have bi:=A7.Z4 bg f.u; ?_
 obtain ⟨⟨cx,cy,cA⟩,bj,H⟩:=bnd H
 refine To (O.D8 z (A5h ⟨M,N,P,S,U,z,W.u,x.u,X.u,Y.u,Z.u⟩ bi ⟨(qs),z,G6.nil⟩ bj _) z fun cB cC cD cE bk=>?_)
 obtain ⟨ab,ac,ad,ae,af,cG,cI,rfl,bm,ag,ai,aj,ak,am,bn⟩:=bk
 refine J9 _ bm<|Mv z<|Vv (V.ext z z)<|Vv (V.ext z z)<|Vv (V.ext z z)<|To (O.alloc A0p z z fun cJ=>To (O.stF (vs:=[ab,ac,ad,ae,af]) G9 z z (j:=0) z z (by (simp only [Sl.ones,G6.one ag,G6.one ai,G6.one aj,G6.one ak,G6.one am,Bool.and_true,Bool.true_and]) <;> rfl) z ?_))
 refine T.fl ?_
 refine T.freeze fun cK cM bo=>have bp:=AtC.of bo; Ag z<|Ag z<|Nt<|Sr<|Mv z<|Vv (V.eq z z)<|Mv z<|T.bH 97 H z (fun H=>?_) fun H=>?_
 ·refine Vv (V.ldS z bp (by exact G9)) ?_
  refine Vv (V.ldS z c.u (by exact G9)) ?_
  obtain ⟨cN,bq,H⟩:=bnd H
  refine To (O.D8 z (B6d ⟨ab,ac,ad,ae,af,z,ag.u,ai.u,aj.u,ak.u,am.u⟩ ⟨i,m,n,o,p,z,q.u,a.u,r.u,b.u,s.u⟩ bq _) z fun cO cP cS cU br=>?_)
  obtain ⟨rfl,bt⟩:=br
  refine J9 _ bt<|Vv (V.R8 z z)<|Mv z<|T.bH 102 H z (fun H=>?_) fun H=>?_
  ·refine Mv z<|Mv z<|T.J5 fun cV cW bu=>have bw:=A7.Z4 bu bn.u; ?_
   obtain ⟨cX,bx,H⟩:=bnd H
   refine To (O.D8 z (A0z bw w.u bx _) z fun cY cZ c0 c1 bA=>?_)
   obtain ⟨rfl,bB⟩:=bA
   refine J9 _ bB<|Vv (V.R8 z z)<|Mv z<|T.bH 107 H z (fun H=>?_) fun H=>?_
   ·obtain ⟨c2,bC,H⟩:=bnd H
    refine To (O.D8 z (B3C bC _) z fun c3 c4 c5 c6 bD=>?_)
    obtain ⟨rfl,bE⟩:=bD
    exact J9 _ bE<|Vv (V.R8 z z)<|Ag z<|Nt<|T.ret<|T.drop<|E1 H
   exact dead H
  exact dead H
 exact dead H
end Go.Proofs.X
