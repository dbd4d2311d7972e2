import Derived.Test.YtphnomnanplclaaGreatDoorChecked
import Derived.Test.YtphnomnanplclaaGreatDoorDa
import Derived.Test.YtphnomnanplclaaGreatDoorL10
/- How values stand for data. -/
set_option maxRecDepth 1000000
set_option maxHeartbeats 40000000
set_option linter.unusedVariables false
set_option linter.unusedSimpArgs false
set_option linter.unnecessarySimpa false
open Go Go.Proofs Go.Sl
namespace Go.Dm
def A1S (h : PH) (w : Value) (f : Int→Option Bool) : Prop:=(w.oneCell' = true∧w.cells = [w].toArray)∧((∀ (x0 : Int),f x0 = none)∨∃ fid us vs,w = .func (.func fid) us.toArray vs.toArray∧∀ h',Le h h'→∀ {x0 : Int} {r_0 : Bool} (H : f x0 = some r_0) (L : List E9),H5 Tryz.prog fid (us ++ [.int .i64 x0] ++ vs) h' L (fun v h' L'=>v = .bool r_0∧L' = L))
theorem A1S.mono {h g : PH} {w : Value} {f : Int→Option Bool} (c : A1S h w f) (l : Le h g) : A1S g w f:=⟨c.1,c.2.imp id fun ⟨fid,us,vs,e,k⟩=>⟨fid,us,vs,e,fun h' l'=>k h' (l.trans l')⟩⟩
theorem A1S.u {h g : PH} {w : Value} {f : Int→Option Bool} [l : LeI h g] (c : A1S h w f) : A1S g w f:=c.mono l.le
theorem A1S.call {h : PH} {w : Value} {f : Int→Option Bool} (c : A1S h w f) {x0 : Int} {r_0 : Bool} (H : f x0 = some r_0) : ∃ fid us vs,w = .func (.func fid) us.toArray vs.toArray∧∀ L : List E9,H5 Tryz.prog fid (us ++ [.int .i64 x0] ++ vs) h L (fun v h' L'=>v = .bool r_0∧L' = L):=by
  rcases c.2 with n | ⟨fid,us,vs,e,k⟩
  · rw [n] at H; cases H
  · exact ⟨fid,us,vs,e,k h (Le.refl h) H⟩
def B3A : Vr (Int→Option Bool):=fun h cs f=>∃ w,cs = [w]∧A1S h w f
theorem B3A.mono : A0R B3A:=fun _ _ _ _ l ⟨w,e,c⟩=>⟨w,e,c.mono l⟩
instance : MonoC B3A:=⟨B3A.mono⟩
def E8 : Vr D5:=fun h cs x=>∃ v1,cs = [.string x.H7,.int .u8 x.N9,.int .i64 x.fA,.int .i64 x.fB,v1,.int .i64 x.fX,.int .i64 x.fY]∧G9 (VI .i64) 1 h v1 x.A0N
theorem E8.mono : A0R E8:=fun h g cs x l ⟨v1,e,hS2⟩=>⟨v1,e,G9.mono VI.mono hS2 l⟩
instance : MonoC E8:=⟨E8.mono⟩
theorem E8.plain : Plain E8:=fun h cs x ⟨v1,e,hS2⟩=>by rw [e]; (simp only [Sl.ones,U2,G9.one hS2,Bool.and_true,Bool.true_and]) <;> rfl
def A7t (h : PH) (w : Value) (f : D5→Option Bool) : Prop:=(w.oneCell' = true∧w.cells = [w].toArray)∧((∀ (x0 : D5),f x0 = none)∨∃ fid us vs,w = .func (.func fid) us.toArray vs.toArray∧∀ h',Le h h'→∀ {pc0 : List Value} {x0 : D5} (pr0 : E8 h' pc0 x0) {r_0 : Bool} (H : f x0 = some r_0) (L : List E9),H5 Tryz.prog fid (us ++ [.agg pc0.toArray] ++ vs) h' L (fun v h' L'=>v = .bool r_0∧L' = L))
theorem A7t.mono {h g : PH} {w : Value} {f : D5→Option Bool} (c : A7t h w f) (l : Le h g) : A7t g w f:=⟨c.1,c.2.imp id fun ⟨fid,us,vs,e,k⟩=>⟨fid,us,vs,e,fun h' l'=>k h' (l.trans l')⟩⟩
theorem A7t.u {h g : PH} {w : Value} {f : D5→Option Bool} [l : LeI h g] (c : A7t h w f) : A7t g w f:=c.mono l.le
theorem A7t.call {h : PH} {w : Value} {f : D5→Option Bool} (c : A7t h w f) {pc0 : List Value} {x0 : D5} (pr0 : E8 h pc0 x0) {r_0 : Bool} (H : f x0 = some r_0) : ∃ fid us vs,w = .func (.func fid) us.toArray vs.toArray∧∀ L : List E9,H5 Tryz.prog fid (us ++ [.agg pc0.toArray] ++ vs) h L (fun v h' L'=>v = .bool r_0∧L' = L):=by
  rcases c.2 with n | ⟨fid,us,vs,e,k⟩
  · rw [n] at H; cases H
  · exact ⟨fid,us,vs,e,k h (Le.refl h) pr0 H⟩
def C4r : Vr (D5→Option Bool):=fun h cs f=>∃ w,cs = [w]∧A7t h w f
theorem C4r.mono : A0R C4r:=fun _ _ _ _ l ⟨w,e,c⟩=>⟨w,e,c.mono l⟩
instance : MonoC C4r:=⟨C4r.mono⟩
def G7 : Vr E5:=fun h cs x=>∃ v1,cs = [.string x.H7,.string x.Y0,.string x.Q5,.int .i64 x.Q6,.int .i64 x.U5,.string x.V8,.bool x.A0e,.bool x.Q3,v1]∧G9 VS 1 h v1 x.M4
theorem G7.mono : A0R G7:=fun h g cs x l ⟨v1,e,hS2⟩=>⟨v1,e,G9.mono VS.mono hS2 l⟩
instance : MonoC G7:=⟨G7.mono⟩
theorem G7.plain : Plain G7:=fun h cs x ⟨v1,e,hS2⟩=>by rw [e]; (simp only [Sl.ones,U2,G9.one hS2,Bool.and_true,Bool.true_and]) <;> rfl
def A8W (h : PH) (w : Value) (f : E5→Option Bool) : Prop:=(w.oneCell' = true∧w.cells = [w].toArray)∧((∀ (x0 : E5),f x0 = none)∨∃ fid us vs,w = .func (.func fid) us.toArray vs.toArray∧∀ h',Le h h'→∀ {pc0 : List Value} {x0 : E5} (pr0 : G7 h' pc0 x0) {r_0 : Bool} (H : f x0 = some r_0) (L : List E9),H5 Tryz.prog fid (us ++ [.agg pc0.toArray] ++ vs) h' L (fun v h' L'=>v = .bool r_0∧L' = L))
theorem A8W.mono {h g : PH} {w : Value} {f : E5→Option Bool} (c : A8W h w f) (l : Le h g) : A8W g w f:=⟨c.1,c.2.imp id fun ⟨fid,us,vs,e,k⟩=>⟨fid,us,vs,e,fun h' l'=>k h' (l.trans l')⟩⟩
theorem A8W.u {h g : PH} {w : Value} {f : E5→Option Bool} [l : LeI h g] (c : A8W h w f) : A8W g w f:=c.mono l.le
theorem A8W.call {h : PH} {w : Value} {f : E5→Option Bool} (c : A8W h w f) {pc0 : List Value} {x0 : E5} (pr0 : G7 h pc0 x0) {r_0 : Bool} (H : f x0 = some r_0) : ∃ fid us vs,w = .func (.func fid) us.toArray vs.toArray∧∀ L : List E9,H5 Tryz.prog fid (us ++ [.agg pc0.toArray] ++ vs) h L (fun v h' L'=>v = .bool r_0∧L' = L):=by
  rcases c.2 with n | ⟨fid,us,vs,e,k⟩
  · rw [n] at H; cases H
  · exact ⟨fid,us,vs,e,k h (Le.refl h) pr0 H⟩
def C4p : Vr (E5→Option Bool):=fun h cs f=>∃ w,cs = [w]∧A8W h w f
theorem C4p.mono : A0R C4p:=fun _ _ _ _ l ⟨w,e,c⟩=>⟨w,e,c.mono l⟩
instance : MonoC C4p:=⟨C4p.mono⟩
def A9M (h : PH) (w : Value) (f : ByteArray→Option Bool) : Prop:=(w.oneCell' = true∧w.cells = [w].toArray)∧((∀ (x0 : ByteArray),f x0 = none)∨∃ fid us vs,w = .func (.func fid) us.toArray vs.toArray∧∀ h',Le h h'→∀ {x0 : ByteArray} {r_0 : Bool} (H : f x0 = some r_0) (L : List E9),H5 Tryz.prog fid (us ++ [.string x0] ++ vs) h' L (fun v h' L'=>v = .bool r_0∧L' = L))
theorem A9M.mono {h g : PH} {w : Value} {f : ByteArray→Option Bool} (c : A9M h w f) (l : Le h g) : A9M g w f:=⟨c.1,c.2.imp id fun ⟨fid,us,vs,e,k⟩=>⟨fid,us,vs,e,fun h' l'=>k h' (l.trans l')⟩⟩
theorem A9M.u {h g : PH} {w : Value} {f : ByteArray→Option Bool} [l : LeI h g] (c : A9M h w f) : A9M g w f:=c.mono l.le
theorem A9M.call {h : PH} {w : Value} {f : ByteArray→Option Bool} (c : A9M h w f) {x0 : ByteArray} {r_0 : Bool} (H : f x0 = some r_0) : ∃ fid us vs,w = .func (.func fid) us.toArray vs.toArray∧∀ L : List E9,H5 Tryz.prog fid (us ++ [.string x0] ++ vs) h L (fun v h' L'=>v = .bool r_0∧L' = L):=by
  rcases c.2 with n | ⟨fid,us,vs,e,k⟩
  · rw [n] at H; cases H
  · exact ⟨fid,us,vs,e,k h (Le.refl h) H⟩
def C4G : Vr (ByteArray→Option Bool):=fun h cs f=>∃ w,cs = [w]∧A9M h w f
theorem C4G.mono : A0R C4G:=fun _ _ _ _ l ⟨w,e,c⟩=>⟨w,e,c.mono l⟩
instance : MonoC C4G:=⟨C4G.mono⟩
def I1 : Vr G6:=fun h cs x=>cs = [.string x.fA,.string x.fB,.int .u8 x.J4]
theorem I1.mono : A0R I1:=fun h g cs x l e=>e
instance : MonoC I1:=⟨I1.mono⟩
theorem I1.plain : Plain I1:=fun h cs x e=>by rw [show cs = _ from e]; rfl
def H9 : Vr G5:=fun h cs x=>cs = [.int .u8 x.J4,.int .i64 x.Y6,.string x.fA,.string x.fB,.string x.V7,.int .i64 x.fN]
theorem H9.mono : A0R H9:=fun h g cs x l e=>e
instance : MonoC H9:=⟨H9.mono⟩
theorem H9.plain : Plain H9:=fun h cs x e=>by rw [show cs = _ from e]; rfl
def A5x (h : PH) (w : Value) (f : Int→Int→Option Int) : Prop:=(w.oneCell' = true∧w.cells = [w].toArray)∧((∀ (x0 : Int) (x1 : Int),f x0 x1 = none)∨∃ fid us vs,w = .func (.func fid) us.toArray vs.toArray∧∀ h',Le h h'→∀ {x0 : Int} {x1 : Int} {r_0 : Int} (H : f x0 x1 = some r_0) (L : List E9),H5 Tryz.prog fid (us ++ [.int .i64 x0,.int .i64 x1] ++ vs) h' L (fun v h' L'=>v = .int .i64 r_0∧L' = L))
theorem A5x.mono {h g : PH} {w : Value} {f : Int→Int→Option Int} (c : A5x h w f) (l : Le h g) : A5x g w f:=⟨c.1,c.2.imp id fun ⟨fid,us,vs,e,k⟩=>⟨fid,us,vs,e,fun h' l'=>k h' (l.trans l')⟩⟩
theorem A5x.u {h g : PH} {w : Value} {f : Int→Int→Option Int} [l : LeI h g] (c : A5x h w f) : A5x g w f:=c.mono l.le
theorem A5x.call {h : PH} {w : Value} {f : Int→Int→Option Int} (c : A5x h w f) {x0 : Int} {x1 : Int} {r_0 : Int} (H : f x0 x1 = some r_0) : ∃ fid us vs,w = .func (.func fid) us.toArray vs.toArray∧∀ L : List E9,H5 Tryz.prog fid (us ++ [.int .i64 x0,.int .i64 x1] ++ vs) h L (fun v h' L'=>v = .int .i64 r_0∧L' = L):=by
  rcases c.2 with n | ⟨fid,us,vs,e,k⟩
  · rw [n] at H; cases H
  · exact ⟨fid,us,vs,e,k h (Le.refl h) H⟩
def C4q : Vr (Int→Int→Option Int):=fun h cs f=>∃ w,cs = [w]∧A5x h w f
theorem C4q.mono : A0R C4q:=fun _ _ _ _ l ⟨w,e,c⟩=>⟨w,e,c.mono l⟩
instance : MonoC C4q:=⟨C4q.mono⟩
def A7w (h : PH) (w : Value) (f : (List Int)→(List Int)→Option Int) : Prop:=(w.oneCell' = true∧w.cells = [w].toArray)∧((∀ (x0 : List Int) (x1 : List Int),f x0 x1 = none)∨∃ fid us vs,w = .func (.func fid) us.toArray vs.toArray∧∀ h',Le h h'→∀ {pv0 : Value} {x0 : List Int} (pr0 : G9 (VI .i64) 1 h' pv0 x0) {pv1 : Value} {x1 : List Int} (pr1 : G9 (VI .i64) 1 h' pv1 x1) {r_0 : Int} (H : f x0 x1 = some r_0) (L : List E9),H5 Tryz.prog fid (us ++ [pv0,pv1] ++ vs) h' L (fun v h' L'=>v = .int .i64 r_0∧L' = L))
theorem A7w.mono {h g : PH} {w : Value} {f : (List Int)→(List Int)→Option Int} (c : A7w h w f) (l : Le h g) : A7w g w f:=⟨c.1,c.2.imp id fun ⟨fid,us,vs,e,k⟩=>⟨fid,us,vs,e,fun h' l'=>k h' (l.trans l')⟩⟩
theorem A7w.u {h g : PH} {w : Value} {f : (List Int)→(List Int)→Option Int} [l : LeI h g] (c : A7w h w f) : A7w g w f:=c.mono l.le
theorem A7w.call {h : PH} {w : Value} {f : (List Int)→(List Int)→Option Int} (c : A7w h w f) {pv0 : Value} {x0 : List Int} (pr0 : G9 (VI .i64) 1 h pv0 x0) {pv1 : Value} {x1 : List Int} (pr1 : G9 (VI .i64) 1 h pv1 x1) {r_0 : Int} (H : f x0 x1 = some r_0) : ∃ fid us vs,w = .func (.func fid) us.toArray vs.toArray∧∀ L : List E9,H5 Tryz.prog fid (us ++ [pv0,pv1] ++ vs) h L (fun v h' L'=>v = .int .i64 r_0∧L' = L):=by
  rcases c.2 with n | ⟨fid,us,vs,e,k⟩
  · rw [n] at H; cases H
  · exact ⟨fid,us,vs,e,k h (Le.refl h) pr0 pr1 H⟩
def C4H : Vr ((List Int)→(List Int)→Option Int):=fun h cs f=>∃ w,cs = [w]∧A7w h w f
theorem C4H.mono : A0R C4H:=fun _ _ _ _ l ⟨w,e,c⟩=>⟨w,e,c.mono l⟩
instance : MonoC C4H:=⟨C4H.mono⟩
def B7v (h : PH) (w : Value) (f : (List Int)→(List Int)→Option Bool) : Prop:=(w.oneCell' = true∧w.cells = [w].toArray)∧((∀ (x0 : List Int) (x1 : List Int),f x0 x1 = none)∨∃ fid us vs,w = .func (.func fid) us.toArray vs.toArray∧∀ h',Le h h'→∀ {pv0 : Value} {x0 : List Int} (pr0 : G9 (VI .i64) 1 h' pv0 x0) {pv1 : Value} {x1 : List Int} (pr1 : G9 (VI .i64) 1 h' pv1 x1) {r_0 : Bool} (H : f x0 x1 = some r_0) (L : List E9),H5 Tryz.prog fid (us ++ [pv0,pv1] ++ vs) h' L (fun v h' L'=>v = .bool r_0∧L' = L))
theorem B7v.mono {h g : PH} {w : Value} {f : (List Int)→(List Int)→Option Bool} (c : B7v h w f) (l : Le h g) : B7v g w f:=⟨c.1,c.2.imp id fun ⟨fid,us,vs,e,k⟩=>⟨fid,us,vs,e,fun h' l'=>k h' (l.trans l')⟩⟩
theorem B7v.u {h g : PH} {w : Value} {f : (List Int)→(List Int)→Option Bool} [l : LeI h g] (c : B7v h w f) : B7v g w f:=c.mono l.le
theorem B7v.call {h : PH} {w : Value} {f : (List Int)→(List Int)→Option Bool} (c : B7v h w f) {pv0 : Value} {x0 : List Int} (pr0 : G9 (VI .i64) 1 h pv0 x0) {pv1 : Value} {x1 : List Int} (pr1 : G9 (VI .i64) 1 h pv1 x1) {r_0 : Bool} (H : f x0 x1 = some r_0) : ∃ fid us vs,w = .func (.func fid) us.toArray vs.toArray∧∀ L : List E9,H5 Tryz.prog fid (us ++ [pv0,pv1] ++ vs) h L (fun v h' L'=>v = .bool r_0∧L' = L):=by
  rcases c.2 with n | ⟨fid,us,vs,e,k⟩
  · rw [n] at H; cases H
  · exact ⟨fid,us,vs,e,k h (Le.refl h) pr0 pr1 H⟩
def C6N : Vr ((List Int)→(List Int)→Option Bool):=fun h cs f=>∃ w,cs = [w]∧B7v h w f
theorem C6N.mono : A0R C6N:=fun _ _ _ _ l ⟨w,e,c⟩=>⟨w,e,c.mono l⟩
instance : MonoC C6N:=⟨C6N.mono⟩
def A5U (h : PH) (w : Value) (f : Int→Option Int) : Prop:=(w.oneCell' = true∧w.cells = [w].toArray)∧((∀ (x0 : Int),f x0 = none)∨∃ fid us vs,w = .func (.func fid) us.toArray vs.toArray∧∀ h',Le h h'→∀ {x0 : Int} {r_0 : Int} (H : f x0 = some r_0) (L : List E9),H5 Tryz.prog fid (us ++ [.int .i64 x0] ++ vs) h' L (fun v h' L'=>v = .int .i64 r_0∧L' = L))
theorem A5U.mono {h g : PH} {w : Value} {f : Int→Option Int} (c : A5U h w f) (l : Le h g) : A5U g w f:=⟨c.1,c.2.imp id fun ⟨fid,us,vs,e,k⟩=>⟨fid,us,vs,e,fun h' l'=>k h' (l.trans l')⟩⟩
theorem A5U.u {h g : PH} {w : Value} {f : Int→Option Int} [l : LeI h g] (c : A5U h w f) : A5U g w f:=c.mono l.le
theorem A5U.call {h : PH} {w : Value} {f : Int→Option Int} (c : A5U h w f) {x0 : Int} {r_0 : Int} (H : f x0 = some r_0) : ∃ fid us vs,w = .func (.func fid) us.toArray vs.toArray∧∀ L : List E9,H5 Tryz.prog fid (us ++ [.int .i64 x0] ++ vs) h L (fun v h' L'=>v = .int .i64 r_0∧L' = L):=by
  rcases c.2 with n | ⟨fid,us,vs,e,k⟩
  · rw [n] at H; cases H
  · exact ⟨fid,us,vs,e,k h (Le.refl h) H⟩
def A2e : Vr (Int→Option Int):=fun h cs f=>∃ w,cs = [w]∧A5U h w f
theorem A2e.mono : A0R A2e:=fun _ _ _ _ l ⟨w,e,c⟩=>⟨w,e,c.mono l⟩
instance : MonoC A2e:=⟨A2e.mono⟩
theorem A2e.plain : Plain A2e:=fun _ _ _ ⟨w,e,c⟩=>by rw [e]; simp only [Sl.ones,c.1.1]; rfl
def A5v (h : PH) (w : Value) (f : Int→Int→Int→Int→Option Bool) : Prop:=(w.oneCell' = true∧w.cells = [w].toArray)∧((∀ (x0 : Int) (x1 : Int) (x2 : Int) (x3 : Int),f x0 x1 x2 x3 = none)∨∃ fid us vs,w = .func (.func fid) us.toArray vs.toArray∧∀ h',Le h h'→∀ {x0 : Int} {x1 : Int} {x2 : Int} {x3 : Int} {r_0 : Bool} (H : f x0 x1 x2 x3 = some r_0) (L : List E9),H5 Tryz.prog fid (us ++ [.int .i64 x0,.int .i64 x1,.int .i64 x2,.int .i64 x3] ++ vs) h' L (fun v h' L'=>v = .bool r_0∧L' = L))
theorem A5v.mono {h g : PH} {w : Value} {f : Int→Int→Int→Int→Option Bool} (c : A5v h w f) (l : Le h g) : A5v g w f:=⟨c.1,c.2.imp id fun ⟨fid,us,vs,e,k⟩=>⟨fid,us,vs,e,fun h' l'=>k h' (l.trans l')⟩⟩
theorem A5v.u {h g : PH} {w : Value} {f : Int→Int→Int→Int→Option Bool} [l : LeI h g] (c : A5v h w f) : A5v g w f:=c.mono l.le
theorem A5v.call {h : PH} {w : Value} {f : Int→Int→Int→Int→Option Bool} (c : A5v h w f) {x0 : Int} {x1 : Int} {x2 : Int} {x3 : Int} {r_0 : Bool} (H : f x0 x1 x2 x3 = some r_0) : ∃ fid us vs,w = .func (.func fid) us.toArray vs.toArray∧∀ L : List E9,H5 Tryz.prog fid (us ++ [.int .i64 x0,.int .i64 x1,.int .i64 x2,.int .i64 x3] ++ vs) h L (fun v h' L'=>v = .bool r_0∧L' = L):=by
  rcases c.2 with n | ⟨fid,us,vs,e,k⟩
  · rw [n] at H; cases H
  · exact ⟨fid,us,vs,e,k h (Le.refl h) H⟩
def C4C : Vr (Int→Int→Int→Int→Option Bool):=fun h cs f=>∃ w,cs = [w]∧A5v h w f
theorem C4C.mono : A0R C4C:=fun _ _ _ _ l ⟨w,e,c⟩=>⟨w,e,c.mono l⟩
instance : MonoC C4C:=⟨C4C.mono⟩
def A8U (h : PH) (w : Value) (f : Int→Int→Option (List (Int→Option Int))) : Prop:=(w.oneCell' = true∧w.cells = [w].toArray)∧((∀ (x0 : Int) (x1 : Int),f x0 x1 = none)∨∃ fid us vs,w = .func (.func fid) us.toArray vs.toArray∧∀ h',Le h h'→∀ {x0 : Int} {x1 : Int} {r_0 : List (Int→Option Int)} (H : f x0 x1 = some r_0) (L : List E9),H5 Tryz.prog fid (us ++ [.int .i64 x0,.int .i64 x1] ++ vs) h' L (fun v h' L'=>L' = L∧G9 A2e 1 h' v r_0))
theorem A8U.mono {h g : PH} {w : Value} {f : Int→Int→Option (List (Int→Option Int))} (c : A8U h w f) (l : Le h g) : A8U g w f:=⟨c.1,c.2.imp id fun ⟨fid,us,vs,e,k⟩=>⟨fid,us,vs,e,fun h' l'=>k h' (l.trans l')⟩⟩
theorem A8U.u {h g : PH} {w : Value} {f : Int→Int→Option (List (Int→Option Int))} [l : LeI h g] (c : A8U h w f) : A8U g w f:=c.mono l.le
theorem A8U.call {h : PH} {w : Value} {f : Int→Int→Option (List (Int→Option Int))} (c : A8U h w f) {x0 : Int} {x1 : Int} {r_0 : List (Int→Option Int)} (H : f x0 x1 = some r_0) : ∃ fid us vs,w = .func (.func fid) us.toArray vs.toArray∧∀ L : List E9,H5 Tryz.prog fid (us ++ [.int .i64 x0,.int .i64 x1] ++ vs) h L (fun v h' L'=>L' = L∧G9 A2e 1 h' v r_0):=by
  rcases c.2 with n | ⟨fid,us,vs,e,k⟩
  · rw [n] at H; cases H
  · exact ⟨fid,us,vs,e,k h (Le.refl h) H⟩
def C4B : Vr (Int→Int→Option (List (Int→Option Int))):=fun h cs f=>∃ w,cs = [w]∧A8U h w f
theorem C4B.mono : A0R C4B:=fun _ _ _ _ l ⟨w,e,c⟩=>⟨w,e,c.mono l⟩
instance : MonoC C4B:=⟨C4B.mono⟩
def A7q : Vr A2v:=fun h cs x=>∃ v1 v3 v5 v7 v9,cs = [.string x.A5E,v1,v3,v5,v7,v9]∧A5x h v1 x.V5∧A5v h v3 x.B2s∧A5v h v5 x.B2A∧A5x h v7 x.C1x∧A8U h v9 x.C4i
theorem A7q.mono : A0R A7q:=fun h g cs x l ⟨v1,v3,v5,v7,v9,e,hF2,hF4,hF6,hF8,hF10⟩=>⟨v1,v3,v5,v7,v9,e,A5x.mono hF2 l,A5v.mono hF4 l,A5v.mono hF6 l,A5x.mono hF8 l,A8U.mono hF10 l⟩
instance : MonoC A7q:=⟨A7q.mono⟩
def A5l : Vr P9:=fun h cs x=>∃ v1 v3,cs = [v1,v3]∧G9 G7 9 h v1 x.X4∧G9 I1 3 h v3 x.A1d
theorem A5l.mono : A0R A5l:=fun h g cs x l ⟨v1,v3,e,hS2,hS4⟩=>⟨v1,v3,e,G9.mono G7.mono hS2 l,G9.mono I1.mono hS4 l⟩
instance : MonoC A5l:=⟨A5l.mono⟩
def A0g : Vr J2:=fun h cs x=>∃ v1 v3 v5,cs = [v1,v3,v5]∧G9 G7 9 h v1 x.J7.X4∧G9 I1 3 h v3 x.J7.A1d∧Mp Value.string false (VI .i64) h v5 x.fat
theorem A0g.mono : A0R A0g:=fun h g cs x l ⟨v1,v3,v5,e,hS2,hS4,hM6⟩=>⟨v1,v3,v5,e,G9.mono G7.mono hS2 l,G9.mono I1.mono hS4 l,Mp.mono VI.mono hM6 l⟩
instance : MonoC A0g:=⟨A0g.mono⟩
def A5A (h : PH) (w : Value) (f : G6→G6→Option Int) : Prop:=(w.oneCell' = true∧w.cells = [w].toArray)∧((∀ (x0 : G6) (x1 : G6),f x0 x1 = none)∨∃ fid us vs,w = .func (.func fid) us.toArray vs.toArray∧∀ h',Le h h'→∀ {pc0 : List Value} {x0 : G6} (pr0 : I1 h' pc0 x0) {pc1 : List Value} {x1 : G6} (pr1 : I1 h' pc1 x1) {r_0 : Int} (H : f x0 x1 = some r_0) (L : List E9),H5 Tryz.prog fid (us ++ [.agg pc0.toArray,.agg pc1.toArray] ++ vs) h' L (fun v h' L'=>v = .int .i64 r_0∧L' = L))
theorem A5A.mono {h g : PH} {w : Value} {f : G6→G6→Option Int} (c : A5A h w f) (l : Le h g) : A5A g w f:=⟨c.1,c.2.imp id fun ⟨fid,us,vs,e,k⟩=>⟨fid,us,vs,e,fun h' l'=>k h' (l.trans l')⟩⟩
theorem A5A.u {h g : PH} {w : Value} {f : G6→G6→Option Int} [l : LeI h g] (c : A5A h w f) : A5A g w f:=c.mono l.le
theorem A5A.call {h : PH} {w : Value} {f : G6→G6→Option Int} (c : A5A h w f) {pc0 : List Value} {x0 : G6} (pr0 : I1 h pc0 x0) {pc1 : List Value} {x1 : G6} (pr1 : I1 h pc1 x1) {r_0 : Int} (H : f x0 x1 = some r_0) : ∃ fid us vs,w = .func (.func fid) us.toArray vs.toArray∧∀ L : List E9,H5 Tryz.prog fid (us ++ [.agg pc0.toArray,.agg pc1.toArray] ++ vs) h L (fun v h' L'=>v = .int .i64 r_0∧L' = L):=by
  rcases c.2 with n | ⟨fid,us,vs,e,k⟩
  · rw [n] at H; cases H
  · exact ⟨fid,us,vs,e,k h (Le.refl h) pr0 pr1 H⟩
def C4v : Vr (G6→G6→Option Int):=fun h cs f=>∃ w,cs = [w]∧A5A h w f
theorem C4v.mono : A0R C4v:=fun _ _ _ _ l ⟨w,e,c⟩=>⟨w,e,c.mono l⟩
instance : MonoC C4v:=⟨C4v.mono⟩
def A2X : Vr V6:=fun h cs x=>∃ v1 v3,cs = [v1,v3]∧G9 G7 9 h v1 x.F3∧G9 I1 3 h v3 x.J8
theorem A2X.mono : A0R A2X:=fun h g cs x l ⟨v1,v3,e,hS2,hS4⟩=>⟨v1,v3,e,G9.mono G7.mono hS2 l,G9.mono I1.mono hS4 l⟩
instance : MonoC A2X:=⟨A2X.mono⟩
def C9 : Vr A8:=fun h cs x=>∃ v1 v3 v5 v7 v9,cs = [v1,v3,v5,v7,v9]∧G9 E8 7 h v1 x.H8∧G9 G7 9 h v3 x.F3∧G9 I1 3 h v5 x.J8∧G9 (VI .i64) 1 h v7 x.K5∧G9 H9 6 h v9 x.K9
theorem C9.mono : A0R C9:=fun h g cs x l ⟨v1,v3,v5,v7,v9,e,hS2,hS4,hS6,hS8,hS10⟩=>⟨v1,v3,v5,v7,v9,e,G9.mono E8.mono hS2 l,G9.mono G7.mono hS4 l,G9.mono I1.mono hS6 l,G9.mono VI.mono hS8 l,G9.mono H9.mono hS10 l⟩
instance : MonoC C9:=⟨C9.mono⟩
def K7 : Vr I5:=fun h cs x=>cs = [.string x.A5E,.int .u8 x.fa,.bool x.fb,.int .u8 x.ft,.bool x.fn,.int .i64 x.flo,.bool x.C4y,(fnV x.C3D)]
theorem K7.mono : A0R K7:=fun h g cs x l e=>e
instance : MonoC K7:=⟨K7.mono⟩
def M8 : Vr P8:=fun h cs x=>∃ v1 v3 v5 v7 v9 v11 v13 v15 v17 v19 v21 v23 v25 v27,cs = [v1,v3,v5,v7,v9,v11,v13,v15,v17,v19,v21,v23,v25,v27]∧G9 E8 7 h v1 x.A0J.H8∧G9 G7 9 h v3 x.A0J.F3∧G9 I1 3 h v5 x.A0J.J8∧G9 (VI .i64) 1 h v7 x.A0J.K5∧G9 H9 6 h v9 x.A0J.K9∧Mp (Value.int .u8) true K7 h v11 x.C4d∧G9 (VI .i64) 1 h v13 x.A3n∧G9 (VI .i64) 1 h v15 x.C7z∧G9 VB 1 h v17 x.C7W∧G9 (VSl (VI .i64) 1) 1 h v19 x.B2s∧G9 (VSl (VI .i64) 1) 1 h v21 x.B2A∧G9 (VMp (Value.int .i64) false (VI .i64)) 1 h v23 x.A2d∧G9 (VSl VB 1) 1 h v25 x.C6B∧G9 (VSl (VI .u8) 1) 1 h v27 x.A1d
theorem M8.mono : A0R M8:=fun h g cs x l ⟨v1,v3,v5,v7,v9,v11,v13,v15,v17,v19,v21,v23,v25,v27,e,hS2,hS4,hS6,hS8,hS10,hM12,hS14,hS16,hS18,hS20,hS22,hS24,hS26,hS28⟩=>⟨v1,v3,v5,v7,v9,v11,v13,v15,v17,v19,v21,v23,v25,v27,e,G9.mono E8.mono hS2 l,G9.mono G7.mono hS4 l,G9.mono I1.mono hS6 l,G9.mono VI.mono hS8 l,G9.mono H9.mono hS10 l,Mp.mono K7.mono hM12 l,G9.mono VI.mono hS14 l,G9.mono VI.mono hS16 l,G9.mono VB.mono hS18 l,G9.mono (VSl.mono VI.mono) hS20 l,G9.mono (VSl.mono VI.mono) hS22 l,G9.mono (VMp.mono VI.mono) hS24 l,G9.mono (VSl.mono VB.mono) hS26 l,G9.mono (VSl.mono VI.mono) hS28 l⟩
instance : MonoC M8:=⟨M8.mono⟩
def P7 : Vr J6:=fun h cs x=>∃ v1 v3 v5,cs = [v1,v3,v5]∧Pt M8 h v1 x.O6∧G9 (VI .i64) 1 h v3 x.R6∧G9 (VI .i64) 1 h v5 x.C7m
theorem P7.mono : A0R P7:=fun h g cs x l ⟨v1,v3,v5,e,hP2,hS4,hS6⟩=>⟨v1,v3,v5,e,Pt.mono M8.mono hP2 l,G9.mono VI.mono hS4 l,G9.mono VI.mono hS6 l⟩
instance : MonoC P7:=⟨P7.mono⟩
def A1p {σ : Type} (R : σ→PH→List E9→Prop) (h : PH) (w : Value) (f : σ→Int→(List Int)→Option σ) : Prop:=(w.oneCell' = true∧w.cells = [w].toArray)∧(∀ s h h' La,Le h h'→R s h La→R s h' La)∧∀ h',Le h h'→∀ {x0 : Int} {pv1 : Value} {x1 : List Int} (pr1 : G9 (VI .i64) 1 h' pv1 x1) {s s' : σ} {La : List E9}  (hR : R s h' La) (H : f s x0 x1 = some s') (As L : List E9),Yld Tryz.prog w [.int .i64 x0,pv1] h' (As ++ (La ++ L)) (fun v h2 L'=>∃ La',v = .tuple #[]∧L' = As ++ (La' ++ L)∧R s' h2 La')
theorem A1p.mono {σ : Type} {R : σ→PH→List E9→Prop} {h g : PH} {w : Value} {f : σ→Int→(List Int)→Option σ} (c : A1p R h w f) (l : Le h g) : A1p R g w f:=⟨c.1,c.2.1,fun h' l'=>c.2.2 h' (l.trans l')⟩
theorem A1p.u {σ : Type} {R : σ→PH→List E9→Prop} {h g : PH} {w : Value} {f : σ→Int→(List Int)→Option σ} [l : LeI h g] (c : A1p R h w f) : A1p R g w f:=c.mono l.le
theorem A1p.call {σ : Type} {R : σ→PH→List E9→Prop} {h : PH} {w : Value} {f : σ→Int→(List Int)→Option σ} (c : A1p R h w f) : ∀ {x0 : Int} {pv1 : Value} {x1 : List Int} (pr1 : G9 (VI .i64) 1 h pv1 x1) {s s' : σ} {La : List E9}  (hR : R s h La) (H : f s x0 x1 = some s') (As L : List E9),Yld Tryz.prog w [.int .i64 x0,pv1] h (As ++ (La ++ L)) (fun v h2 L'=>∃ La',v = .tuple #[]∧L' = As ++ (La' ++ L)∧R s' h2 La'):=fun pr1=>fun hR H As L=>c.2.2 h (Le.refl h) pr1 hR H As L
def B5G (h : PH) (w : Value) (f : Int→Int→Option Bool) : Prop:=(w.oneCell' = true∧w.cells = [w].toArray)∧((∀ (x0 : Int) (x1 : Int),f x0 x1 = none)∨∃ fid us vs,w = .func (.func fid) us.toArray vs.toArray∧∀ h',Le h h'→∀ {x0 : Int} {x1 : Int} {r_0 : Bool} (H : f x0 x1 = some r_0) (L : List E9),H5 Tryz.prog fid (us ++ [.int .i64 x0,.int .i64 x1] ++ vs) h' L (fun v h' L'=>v = .bool r_0∧L' = L))
theorem B5G.mono {h g : PH} {w : Value} {f : Int→Int→Option Bool} (c : B5G h w f) (l : Le h g) : B5G g w f:=⟨c.1,c.2.imp id fun ⟨fid,us,vs,e,k⟩=>⟨fid,us,vs,e,fun h' l'=>k h' (l.trans l')⟩⟩
theorem B5G.u {h g : PH} {w : Value} {f : Int→Int→Option Bool} [l : LeI h g] (c : B5G h w f) : B5G g w f:=c.mono l.le
theorem B5G.call {h : PH} {w : Value} {f : Int→Int→Option Bool} (c : B5G h w f) {x0 : Int} {x1 : Int} {r_0 : Bool} (H : f x0 x1 = some r_0) : ∃ fid us vs,w = .func (.func fid) us.toArray vs.toArray∧∀ L : List E9,H5 Tryz.prog fid (us ++ [.int .i64 x0,.int .i64 x1] ++ vs) h L (fun v h' L'=>v = .bool r_0∧L' = L):=by
  rcases c.2 with n | ⟨fid,us,vs,e,k⟩
  · rw [n] at H; cases H
  · exact ⟨fid,us,vs,e,k h (Le.refl h) H⟩
def C4D : Vr (Int→Int→Option Bool):=fun h cs f=>∃ w,cs = [w]∧B5G h w f
theorem C4D.mono : A0R C4D:=fun _ _ _ _ l ⟨w,e,c⟩=>⟨w,e,c.mono l⟩
instance : MonoC C4D:=⟨C4D.mono⟩
def A8C (h : PH) (w : Value) (f : J6→Int→Option Int) : Prop:=(w.oneCell' = true∧w.cells = [w].toArray)∧((∀ (x0 : J6) (x1 : Int),f x0 x1 = none)∨∃ fid us vs,w = .func (.func fid) us.toArray vs.toArray∧∀ h',Le h h'→∀ {pv0 : Value} {x0 : J6} (pr0 : Pt P7 h' pv0 x0) {x1 : Int} {r_0 : Int} (H : f x0 x1 = some r_0) (L : List E9),H5 Tryz.prog fid (us ++ [pv0,.int .i64 x1] ++ vs) h' L (fun v h' L'=>v = .int .i64 r_0∧L' = L))
theorem A8C.mono {h g : PH} {w : Value} {f : J6→Int→Option Int} (c : A8C h w f) (l : Le h g) : A8C g w f:=⟨c.1,c.2.imp id fun ⟨fid,us,vs,e,k⟩=>⟨fid,us,vs,e,fun h' l'=>k h' (l.trans l')⟩⟩
theorem A8C.u {h g : PH} {w : Value} {f : J6→Int→Option Int} [l : LeI h g] (c : A8C h w f) : A8C g w f:=c.mono l.le
theorem A8C.call {h : PH} {w : Value} {f : J6→Int→Option Int} (c : A8C h w f) {pv0 : Value} {x0 : J6} (pr0 : Pt P7 h pv0 x0) {x1 : Int} {r_0 : Int} (H : f x0 x1 = some r_0) : ∃ fid us vs,w = .func (.func fid) us.toArray vs.toArray∧∀ L : List E9,H5 Tryz.prog fid (us ++ [pv0,.int .i64 x1] ++ vs) h L (fun v h' L'=>v = .int .i64 r_0∧L' = L):=by
  rcases c.2 with n | ⟨fid,us,vs,e,k⟩
  · rw [n] at H; cases H
  · exact ⟨fid,us,vs,e,k h (Le.refl h) pr0 H⟩
def C4M : Vr (J6→Int→Option Int):=fun h cs f=>∃ w,cs = [w]∧A8C h w f
theorem C4M.mono : A0R C4M:=fun _ _ _ _ l ⟨w,e,c⟩=>⟨w,e,c.mono l⟩
instance : MonoC C4M:=⟨C4M.mono⟩
def B1w {σ : Type} (R : σ→PH→List E9→Prop) (h : PH) (w : Value) (f : σ→(List Int)→Option (σ×Bool)) : Prop:=(w.oneCell' = true∧w.cells = [w].toArray)∧(∀ s h h' La,Le h h'→R s h La→R s h' La)∧∀ h',Le h h'→∀ {pv0 : Value} {x0 : List Int} (pr0 : G9 (VI .i64) 1 h' pv0 x0) {s s' : σ} {La : List E9} {r_0 : Bool} (hR : R s h' La) (H : f s x0 = some (s',r_0)) (As L : List E9),Yld Tryz.prog w [pv0] h' (As ++ (La ++ L)) (fun v h2 L'=>∃ La',v = .bool r_0∧L' = As ++ (La' ++ L)∧R s' h2 La')
theorem B1w.mono {σ : Type} {R : σ→PH→List E9→Prop} {h g : PH} {w : Value} {f : σ→(List Int)→Option (σ×Bool)} (c : B1w R h w f) (l : Le h g) : B1w R g w f:=⟨c.1,c.2.1,fun h' l'=>c.2.2 h' (l.trans l')⟩
theorem B1w.u {σ : Type} {R : σ→PH→List E9→Prop} {h g : PH} {w : Value} {f : σ→(List Int)→Option (σ×Bool)} [l : LeI h g] (c : B1w R h w f) : B1w R g w f:=c.mono l.le
theorem B1w.call {σ : Type} {R : σ→PH→List E9→Prop} {h : PH} {w : Value} {f : σ→(List Int)→Option (σ×Bool)} (c : B1w R h w f) : ∀ {pv0 : Value} {x0 : List Int} (pr0 : G9 (VI .i64) 1 h pv0 x0) {s s' : σ} {La : List E9} {r_0 : Bool} (hR : R s h La) (H : f s x0 = some (s',r_0)) (As L : List E9),Yld Tryz.prog w [pv0] h (As ++ (La ++ L)) (fun v h2 L'=>∃ La',v = .bool r_0∧L' = As ++ (La' ++ L)∧R s' h2 La'):=fun pr0=>fun hR H As L=>c.2.2 h (Le.refl h) pr0 hR H As L
def R3 : Vr Z0:=fun h cs x=>∃ v1 v3 v5 v7 v9 v11 v13 v15 v17,cs = [v1,v3,v5,v7,v9,v11,v13,v15,v17]∧Pt M8 h v1 x.O6∧G9 E8 7 h v3 x.fp.H8∧G9 G7 9 h v5 x.fp.F3∧G9 I1 3 h v7 x.fp.J8∧G9 (VI .i64) 1 h v9 x.fp.K5∧G9 H9 6 h v11 x.fp.K9∧G9 (VI .i64) 1 h v13 x.A3n∧G9 (VI .i64) 1 h v15 x.C5T∧G9 (VSl (VSl (VI .i64) 1) 1) 1 h v17 x.B7M
theorem R3.mono : A0R R3:=fun h g cs x l ⟨v1,v3,v5,v7,v9,v11,v13,v15,v17,e,hP2,hS4,hS6,hS8,hS10,hS12,hS14,hS16,hS18⟩=>⟨v1,v3,v5,v7,v9,v11,v13,v15,v17,e,Pt.mono M8.mono hP2 l,G9.mono E8.mono hS4 l,G9.mono G7.mono hS6 l,G9.mono I1.mono hS8 l,G9.mono VI.mono hS10 l,G9.mono H9.mono hS12 l,G9.mono VI.mono hS14 l,G9.mono VI.mono hS16 l,G9.mono (VSl.mono (VSl.mono VI.mono)) hS18 l⟩
instance : MonoC R3:=⟨R3.mono⟩
def Y9 : Vr U1:=fun h cs x=>cs = [.int .u8 x.J4,.int .i64 x.fN]
theorem Y9.mono : A0R Y9:=fun h g cs x l e=>e
instance : MonoC Y9:=⟨Y9.mono⟩
theorem Y9.plain : Plain Y9:=fun h cs x e=>by rw [show cs = _ from e]; rfl
def A4U : Vr A0b:=fun h cs x=>∃ v1 v3 v5,cs = [v1,.int .i64 x.A0T,v3,.int .i64 x.fat,v5]∧Pt R3 h v1 x.A1w∧G9 Y9 2 h v3 x.A2d∧G9 (VI .i64) 1 h v5 x.R6
theorem A4U.mono : A0R A4U:=fun h g cs x l ⟨v1,v3,v5,e,hP2,hS4,hS6⟩=>⟨v1,v3,v5,e,Pt.mono R3.mono hP2 l,G9.mono Y9.mono hS4 l,G9.mono VI.mono hS6 l⟩
instance : MonoC A4U:=⟨A4U.mono⟩
def A6a : Vr A1u:=fun h cs x=>cs = [.int .i64 x.fat,.int .i64 x.fe]
theorem A6a.mono : A0R A6a:=fun h g cs x l e=>e
instance : MonoC A6a:=⟨A6a.mono⟩
def A5k : Vr U3:=fun h cs x=>∃ v1 v3 v5,cs = [v1,.int .i64 x.A0T,v3,v5]∧Pt R3 h v1 x.A1w∧G9 Y9 2 h v3 x.A2d∧G9 (VI .i64) 1 h v5 x.R6
theorem A5k.mono : A0R A5k:=fun h g cs x l ⟨v1,v3,v5,e,hP2,hS4,hS6⟩=>⟨v1,v3,v5,e,Pt.mono R3.mono hP2 l,G9.mono Y9.mono hS4 l,G9.mono VI.mono hS6 l⟩
instance : MonoC A5k:=⟨A5k.mono⟩
def L6 : Vr F7:=fun h cs x=>∃ v1 v3 v5 v7 v9 v11 v13,cs = [v1,v3,v5,v7,v9,v11,v13,.int .i64 x.V5]∧Pt M8 h v1 x.O6∧G9 E8 7 h v3 x.fp.H8∧G9 G7 9 h v5 x.fp.F3∧G9 I1 3 h v7 x.fp.J8∧G9 (VI .i64) 1 h v9 x.fp.K5∧G9 H9 6 h v11 x.fp.K9∧G9 (VI .i64) 1 h v13 x.R6
theorem L6.mono : A0R L6:=fun h g cs x l ⟨v1,v3,v5,v7,v9,v11,v13,e,hP2,hS4,hS6,hS8,hS10,hS12,hS14⟩=>⟨v1,v3,v5,v7,v9,v11,v13,e,Pt.mono M8.mono hP2 l,G9.mono E8.mono hS4 l,G9.mono G7.mono hS6 l,G9.mono I1.mono hS8 l,G9.mono VI.mono hS10 l,G9.mono H9.mono hS12 l,G9.mono VI.mono hS14 l⟩
instance : MonoC L6:=⟨L6.mono⟩
def B1m (h : PH) (w : Value) (f : G6→Option Bool) : Prop:=(w.oneCell' = true∧w.cells = [w].toArray)∧((∀ (x0 : G6),f x0 = none)∨∃ fid us vs,w = .func (.func fid) us.toArray vs.toArray∧∀ h',Le h h'→∀ {pc0 : List Value} {x0 : G6} (pr0 : I1 h' pc0 x0) {r_0 : Bool} (H : f x0 = some r_0) (L : List E9),H5 Tryz.prog fid (us ++ [.agg pc0.toArray] ++ vs) h' L (fun v h' L'=>v = .bool r_0∧L' = L))
theorem B1m.mono {h g : PH} {w : Value} {f : G6→Option Bool} (c : B1m h w f) (l : Le h g) : B1m g w f:=⟨c.1,c.2.imp id fun ⟨fid,us,vs,e,k⟩=>⟨fid,us,vs,e,fun h' l'=>k h' (l.trans l')⟩⟩
theorem B1m.u {h g : PH} {w : Value} {f : G6→Option Bool} [l : LeI h g] (c : B1m h w f) : B1m g w f:=c.mono l.le
theorem B1m.call {h : PH} {w : Value} {f : G6→Option Bool} (c : B1m h w f) {pc0 : List Value} {x0 : G6} (pr0 : I1 h pc0 x0) {r_0 : Bool} (H : f x0 = some r_0) : ∃ fid us vs,w = .func (.func fid) us.toArray vs.toArray∧∀ L : List E9,H5 Tryz.prog fid (us ++ [.agg pc0.toArray] ++ vs) h L (fun v h' L'=>v = .bool r_0∧L' = L):=by
  rcases c.2 with n | ⟨fid,us,vs,e,k⟩
  · rw [n] at H; cases H
  · exact ⟨fid,us,vs,e,k h (Le.refl h) pr0 H⟩
def C4s : Vr (G6→Option Bool):=fun h cs f=>∃ w,cs = [w]∧B1m h w f
theorem C4s.mono : A0R C4s:=fun _ _ _ _ l ⟨w,e,c⟩=>⟨w,e,c.mono l⟩
instance : MonoC C4s:=⟨C4s.mono⟩
def B6f (h : PH) (w : Value) (f : G5→Option Bool) : Prop:=(w.oneCell' = true∧w.cells = [w].toArray)∧((∀ (x0 : G5),f x0 = none)∨∃ fid us vs,w = .func (.func fid) us.toArray vs.toArray∧∀ h',Le h h'→∀ {pc0 : List Value} {x0 : G5} (pr0 : H9 h' pc0 x0) {r_0 : Bool} (H : f x0 = some r_0) (L : List E9),H5 Tryz.prog fid (us ++ [.agg pc0.toArray] ++ vs) h' L (fun v h' L'=>v = .bool r_0∧L' = L))
theorem B6f.mono {h g : PH} {w : Value} {f : G5→Option Bool} (c : B6f h w f) (l : Le h g) : B6f g w f:=⟨c.1,c.2.imp id fun ⟨fid,us,vs,e,k⟩=>⟨fid,us,vs,e,fun h' l'=>k h' (l.trans l')⟩⟩
theorem B6f.u {h g : PH} {w : Value} {f : G5→Option Bool} [l : LeI h g] (c : B6f h w f) : B6f g w f:=c.mono l.le
theorem B6f.call {h : PH} {w : Value} {f : G5→Option Bool} (c : B6f h w f) {pc0 : List Value} {x0 : G5} (pr0 : H9 h pc0 x0) {r_0 : Bool} (H : f x0 = some r_0) : ∃ fid us vs,w = .func (.func fid) us.toArray vs.toArray∧∀ L : List E9,H5 Tryz.prog fid (us ++ [.agg pc0.toArray] ++ vs) h L (fun v h' L'=>v = .bool r_0∧L' = L):=by
  rcases c.2 with n | ⟨fid,us,vs,e,k⟩
  · rw [n] at H; cases H
  · exact ⟨fid,us,vs,e,k h (Le.refl h) pr0 H⟩
def C6y : Vr (G5→Option Bool):=fun h cs f=>∃ w,cs = [w]∧B6f h w f
theorem C6y.mono : A0R C6y:=fun _ _ _ _ l ⟨w,e,c⟩=>⟨w,e,c.mono l⟩
instance : MonoC C6y:=⟨C6y.mono⟩
def U0 : Vr M7:=fun h cs x=>∃ v1,cs = [.int .u8 x.J4,.string x.L9.H7,.string x.L9.Y0,.string x.L9.Q5,.int .i64 x.L9.Q6,.int .i64 x.L9.U5,.string x.L9.V8,.bool x.L9.A0e,.bool x.L9.Q3,v1,.string x.fA,.string x.fB,.string x.V7,.int .i64 x.fN,.int .u8 x.A2M.J4,.int .i64 x.A2M.Y6,.string x.A2M.fA,.string x.A2M.fB,.string x.A2M.V7,.int .i64 x.A2M.fN]∧G9 VS 1 h v1 x.L9.M4
theorem U0.mono : A0R U0:=fun h g cs x l ⟨v1,e,hS2⟩=>⟨v1,e,G9.mono VS.mono hS2 l⟩
instance : MonoC U0:=⟨U0.mono⟩
def A9t : Vr A8H:=fun h cs x=>cs = [.string x.A5E,(fnV x.B8o),(fnV x.B8z),(fnV x.C4t),(fnV x.C2x)]
theorem A9t.mono : A0R A9t:=fun h g cs x l e=>e
instance : MonoC A9t:=⟨A9t.mono⟩
def A9i : Vr X7:=fun h cs x=>∃ v1,cs = [v1,.int .i64 x.A0B]∧G9 (VI .i64) 1 h v1 x.A1H
theorem A9i.mono : A0R A9i:=fun h g cs x l ⟨v1,e,hS2⟩=>⟨v1,e,G9.mono VI.mono hS2 l⟩
instance : MonoC A9i:=⟨A9i.mono⟩
def A2x : Vr U6:=fun h cs x=>∃ v1 v3 v5 v7 v9 v11,cs = [v1,v3,v5,v7,v9,v11,.int .i64 x.A1X,.int .i64 x.A0B]∧G9 E8 7 h v1 x.U8.H8∧G9 G7 9 h v3 x.U8.F3∧G9 I1 3 h v5 x.U8.J8∧G9 (VI .i64) 1 h v7 x.U8.K5∧G9 H9 6 h v9 x.U8.K9∧G9 (VI .i64) 1 h v11 x.A1H
theorem A2x.mono : A0R A2x:=fun h g cs x l ⟨v1,v3,v5,v7,v9,v11,e,hS2,hS4,hS6,hS8,hS10,hS12⟩=>⟨v1,v3,v5,v7,v9,v11,e,G9.mono E8.mono hS2 l,G9.mono G7.mono hS4 l,G9.mono I1.mono hS6 l,G9.mono VI.mono hS8 l,G9.mono H9.mono hS10 l,G9.mono VI.mono hS12 l⟩
instance : MonoC A2x:=⟨A2x.mono⟩
end Go.Dm
