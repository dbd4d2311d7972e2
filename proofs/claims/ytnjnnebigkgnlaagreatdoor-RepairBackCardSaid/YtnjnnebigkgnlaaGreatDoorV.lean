import Derived.Test.YtnjnnebigkgnlaaGreatDoorChecked
import Derived.Test.YtnjnnebigkgnlaaGreatDoorDa
import Derived.Test.YtnjnnebigkgnlaaGreatDoorL10
/- How values stand for data. -/
set_option maxRecDepth 1000000
set_option maxHeartbeats 40000000
set_option linter.unusedVariables false
set_option linter.unusedSimpArgs false
set_option linter.unnecessarySimpa false
open Go Go.Proofs Go.Proofs.Tryz Go.Sl
namespace Go.Dm
def A2q (h : PH) (w : Value) (f : Int→Option Bool) : Prop:=(w.oneCell' = true∧w.cells = [w].toArray)∧((∀ (x0 : Int),f x0 = none)∨∃ fid us vs,w = .func (.func fid) us.toArray vs.toArray∧∀ h',Le h h'→∀ {x0 : Int} {r_0 : Bool} (H : f x0 = some r_0) (L : List E9),G8 prog fid (us ++ [.int .i64 x0] ++ vs) h' L (fun v h' L'=>v = .bool r_0∧L' = L))
theorem A2q.mono {h g : PH} {w : Value} {f : Int→Option Bool} (c : A2q h w f) (l : Le h g) : A2q g w f:=⟨c.1,c.2.imp id fun ⟨fid,us,vs,e,k⟩=>⟨fid,us,vs,e,fun h' l'=>k h' (l.trans l')⟩⟩
theorem A2q.u {h g : PH} {w : Value} {f : Int→Option Bool} [l : LeI h g] (c : A2q h w f) : A2q g w f:=c.mono l.le
theorem A2q.call {h : PH} {w : Value} {f : Int→Option Bool} (c : A2q h w f) {x0 : Int} {r_0 : Bool} (H : f x0 = some r_0) : ∃ fid us vs,w = .func (.func fid) us.toArray vs.toArray∧∀ L : List E9,G8 prog fid (us ++ [.int .i64 x0] ++ vs) h L (fun v h' L'=>v = .bool r_0∧L' = L):=by
 rcases c.2 with n | ⟨fid,us,vs,e,k⟩
 ·rw [n] at H; cases H
 ·exact ⟨fid,us,vs,e,k h (Le.refl h) H⟩
def C2H : Vr (Int→Option Bool):=fun h cs f=>∃ w,cs = [w]∧A2q h w f
theorem C2H.mono : A0Y C2H:=fun _ _ _ _ l ⟨w,e,c⟩=>⟨w,e,c.mono l⟩
instance : MonoC C2H:=⟨C2H.mono⟩
def F7 : Vr C8:=fun h cs x=>∃ v1,cs = [.string x.F8,.int .u8 x.O6,.int .i64 x.fA,.int .i64 x.fB,v1,.int .i64 x.fX,.int .i64 x.fY]∧G6 (VI .i64) 1 h v1 x.A2H
theorem F7.mono : A0Y F7:=fun h g cs x l ⟨v1,e,hS2⟩=>⟨v1,e,G6.mono VI.mono hS2 l⟩
instance : MonoC F7:=⟨F7.mono⟩
theorem F7.plain : Plain F7:=fun h cs x ⟨v1,e,hS2⟩=>by rw [e]; (simp only [Sl.ones,Q9,G6.one hS2,Bool.and_true,Bool.true_and]) <;> rfl
def A9x (h : PH) (w : Value) (f : C8→Option Bool) : Prop:=(w.oneCell' = true∧w.cells = [w].toArray)∧((∀ (x0 : C8),f x0 = none)∨∃ fid us vs,w = .func (.func fid) us.toArray vs.toArray∧∀ h',Le h h'→∀ {pc0 : List Value} {x0 : C8} (pr0 : F7 h' pc0 x0) {r_0 : Bool} (H : f x0 = some r_0) (L : List E9),G8 prog fid (us ++ [.agg pc0.toArray] ++ vs) h' L (fun v h' L'=>v = .bool r_0∧L' = L))
theorem A9x.mono {h g : PH} {w : Value} {f : C8→Option Bool} (c : A9x h w f) (l : Le h g) : A9x g w f:=⟨c.1,c.2.imp id fun ⟨fid,us,vs,e,k⟩=>⟨fid,us,vs,e,fun h' l'=>k h' (l.trans l')⟩⟩
theorem A9x.u {h g : PH} {w : Value} {f : C8→Option Bool} [l : LeI h g] (c : A9x h w f) : A9x g w f:=c.mono l.le
theorem A9x.call {h : PH} {w : Value} {f : C8→Option Bool} (c : A9x h w f) {pc0 : List Value} {x0 : C8} (pr0 : F7 h pc0 x0) {r_0 : Bool} (H : f x0 = some r_0) : ∃ fid us vs,w = .func (.func fid) us.toArray vs.toArray∧∀ L : List E9,G8 prog fid (us ++ [.agg pc0.toArray] ++ vs) h L (fun v h' L'=>v = .bool r_0∧L' = L):=by
 rcases c.2 with n | ⟨fid,us,vs,e,k⟩
 ·rw [n] at H; cases H
 ·exact ⟨fid,us,vs,e,k h (Le.refl h) pr0 H⟩
def C6U : Vr (C8→Option Bool):=fun h cs f=>∃ w,cs = [w]∧A9x h w f
theorem C6U.mono : A0Y C6U:=fun _ _ _ _ l ⟨w,e,c⟩=>⟨w,e,c.mono l⟩
instance : MonoC C6U:=⟨C6U.mono⟩
def F9 : Vr D6:=fun h cs x=>∃ v1,cs = [.string x.F8,.string x.A0k,.string x.V9,.int .i64 x.V3,.int .i64 x.A0f,.string x.Z0,.bool x.A0u,.bool x.U2,v1]∧G6 VS 1 h v1 x.M6
theorem F9.mono : A0Y F9:=fun h g cs x l ⟨v1,e,hS2⟩=>⟨v1,e,G6.mono VS.mono hS2 l⟩
instance : MonoC F9:=⟨F9.mono⟩
theorem F9.plain : Plain F9:=fun h cs x ⟨v1,e,hS2⟩=>by rw [e]; (simp only [Sl.ones,Q9,G6.one hS2,Bool.and_true,Bool.true_and]) <;> rfl
def B0u (h : PH) (w : Value) (f : D6→Option Bool) : Prop:=(w.oneCell' = true∧w.cells = [w].toArray)∧((∀ (x0 : D6),f x0 = none)∨∃ fid us vs,w = .func (.func fid) us.toArray vs.toArray∧∀ h',Le h h'→∀ {pc0 : List Value} {x0 : D6} (pr0 : F9 h' pc0 x0) {r_0 : Bool} (H : f x0 = some r_0) (L : List E9),G8 prog fid (us ++ [.agg pc0.toArray] ++ vs) h' L (fun v h' L'=>v = .bool r_0∧L' = L))
theorem B0u.mono {h g : PH} {w : Value} {f : D6→Option Bool} (c : B0u h w f) (l : Le h g) : B0u g w f:=⟨c.1,c.2.imp id fun ⟨fid,us,vs,e,k⟩=>⟨fid,us,vs,e,fun h' l'=>k h' (l.trans l')⟩⟩
theorem B0u.u {h g : PH} {w : Value} {f : D6→Option Bool} [l : LeI h g] (c : B0u h w f) : B0u g w f:=c.mono l.le
theorem B0u.call {h : PH} {w : Value} {f : D6→Option Bool} (c : B0u h w f) {pc0 : List Value} {x0 : D6} (pr0 : F9 h pc0 x0) {r_0 : Bool} (H : f x0 = some r_0) : ∃ fid us vs,w = .func (.func fid) us.toArray vs.toArray∧∀ L : List E9,G8 prog fid (us ++ [.agg pc0.toArray] ++ vs) h L (fun v h' L'=>v = .bool r_0∧L' = L):=by
 rcases c.2 with n | ⟨fid,us,vs,e,k⟩
 ·rw [n] at H; cases H
 ·exact ⟨fid,us,vs,e,k h (Le.refl h) pr0 H⟩
def C6I : Vr (D6→Option Bool):=fun h cs f=>∃ w,cs = [w]∧B0u h w f
theorem C6I.mono : A0Y C6I:=fun _ _ _ _ l ⟨w,e,c⟩=>⟨w,e,c.mono l⟩
instance : MonoC C6I:=⟨C6I.mono⟩
def A9e (h : PH) (w : Value) (f : ByteArray→Option Bool) : Prop:=(w.oneCell' = true∧w.cells = [w].toArray)∧((∀ (x0 : ByteArray),f x0 = none)∨∃ fid us vs,w = .func (.func fid) us.toArray vs.toArray∧∀ h',Le h h'→∀ {x0 : ByteArray} {r_0 : Bool} (H : f x0 = some r_0) (L : List E9),G8 prog fid (us ++ [.string x0] ++ vs) h' L (fun v h' L'=>v = .bool r_0∧L' = L))
theorem A9e.mono {h g : PH} {w : Value} {f : ByteArray→Option Bool} (c : A9e h w f) (l : Le h g) : A9e g w f:=⟨c.1,c.2.imp id fun ⟨fid,us,vs,e,k⟩=>⟨fid,us,vs,e,fun h' l'=>k h' (l.trans l')⟩⟩
theorem A9e.u {h g : PH} {w : Value} {f : ByteArray→Option Bool} [l : LeI h g] (c : A9e h w f) : A9e g w f:=c.mono l.le
theorem A9e.call {h : PH} {w : Value} {f : ByteArray→Option Bool} (c : A9e h w f) {x0 : ByteArray} {r_0 : Bool} (H : f x0 = some r_0) : ∃ fid us vs,w = .func (.func fid) us.toArray vs.toArray∧∀ L : List E9,G8 prog fid (us ++ [.string x0] ++ vs) h L (fun v h' L'=>v = .bool r_0∧L' = L):=by
 rcases c.2 with n | ⟨fid,us,vs,e,k⟩
 ·rw [n] at H; cases H
 ·exact ⟨fid,us,vs,e,k h (Le.refl h) H⟩
def C6s : Vr (ByteArray→Option Bool):=fun h cs f=>∃ w,cs = [w]∧A9e h w f
theorem C6s.mono : A0Y C6s:=fun _ _ _ _ l ⟨w,e,c⟩=>⟨w,e,c.mono l⟩
instance : MonoC C6s:=⟨C6s.mono⟩
def H7 : Vr F5:=fun h cs x=>cs = [.string x.fA,.string x.fB,.int .u8 x.H8]
theorem H7.mono : A0Y H7:=fun h g cs x l e=>e
instance : MonoC H7:=⟨H7.mono⟩
theorem H7.plain : Plain H7:=fun h cs x e=>by rw [show cs = _ from e]; rfl
def H5 : Vr F6:=fun h cs x=>cs = [.int .u8 x.H8,.int .i64 x.Q3,.string x.fA,.string x.fB,.string x.R6,.int .i64 x.fN]
theorem H5.mono : A0Y H5:=fun h g cs x l e=>e
instance : MonoC H5:=⟨H5.mono⟩
theorem H5.plain : Plain H5:=fun h cs x e=>by rw [show cs = _ from e]; rfl
def B3F (h : PH) (w : Value) (f : Int→Int→Option Int) : Prop:=(w.oneCell' = true∧w.cells = [w].toArray)∧((∀ (x0 : Int) (x1 : Int),f x0 x1 = none)∨∃ fid us vs,w = .func (.func fid) us.toArray vs.toArray∧∀ h',Le h h'→∀ {x0 : Int} {x1 : Int} {r_0 : Int} (H : f x0 x1 = some r_0) (L : List E9),G8 prog fid (us ++ [.int .i64 x0,.int .i64 x1] ++ vs) h' L (fun v h' L'=>v = .int .i64 r_0∧L' = L))
theorem B3F.mono {h g : PH} {w : Value} {f : Int→Int→Option Int} (c : B3F h w f) (l : Le h g) : B3F g w f:=⟨c.1,c.2.imp id fun ⟨fid,us,vs,e,k⟩=>⟨fid,us,vs,e,fun h' l'=>k h' (l.trans l')⟩⟩
theorem B3F.u {h g : PH} {w : Value} {f : Int→Int→Option Int} [l : LeI h g] (c : B3F h w f) : B3F g w f:=c.mono l.le
theorem B3F.call {h : PH} {w : Value} {f : Int→Int→Option Int} (c : B3F h w f) {x0 : Int} {x1 : Int} {r_0 : Int} (H : f x0 x1 = some r_0) : ∃ fid us vs,w = .func (.func fid) us.toArray vs.toArray∧∀ L : List E9,G8 prog fid (us ++ [.int .i64 x0,.int .i64 x1] ++ vs) h L (fun v h' L'=>v = .int .i64 r_0∧L' = L):=by
 rcases c.2 with n | ⟨fid,us,vs,e,k⟩
 ·rw [n] at H; cases H
 ·exact ⟨fid,us,vs,e,k h (Le.refl h) H⟩
def C9V : Vr (Int→Int→Option Int):=fun h cs f=>∃ w,cs = [w]∧B3F h w f
theorem C9V.mono : A0Y C9V:=fun _ _ _ _ l ⟨w,e,c⟩=>⟨w,e,c.mono l⟩
instance : MonoC C9V:=⟨C9V.mono⟩
def A9A (h : PH) (w : Value) (f : (List Int)→(List Int)→Option Int) : Prop:=(w.oneCell' = true∧w.cells = [w].toArray)∧((∀ (x0 : List Int) (x1 : List Int),f x0 x1 = none)∨∃ fid us vs,w = .func (.func fid) us.toArray vs.toArray∧∀ h',Le h h'→∀ {pv0 : Value} {x0 : List Int} (pr0 : G6 (VI .i64) 1 h' pv0 x0) {pv1 : Value} {x1 : List Int} (pr1 : G6 (VI .i64) 1 h' pv1 x1) {r_0 : Int} (H : f x0 x1 = some r_0) (L : List E9),G8 prog fid (us ++ [pv0,pv1] ++ vs) h' L (fun v h' L'=>v = .int .i64 r_0∧L' = L))
theorem A9A.mono {h g : PH} {w : Value} {f : (List Int)→(List Int)→Option Int} (c : A9A h w f) (l : Le h g) : A9A g w f:=⟨c.1,c.2.imp id fun ⟨fid,us,vs,e,k⟩=>⟨fid,us,vs,e,fun h' l'=>k h' (l.trans l')⟩⟩
theorem A9A.u {h g : PH} {w : Value} {f : (List Int)→(List Int)→Option Int} [l : LeI h g] (c : A9A h w f) : A9A g w f:=c.mono l.le
theorem A9A.call {h : PH} {w : Value} {f : (List Int)→(List Int)→Option Int} (c : A9A h w f) {pv0 : Value} {x0 : List Int} (pr0 : G6 (VI .i64) 1 h pv0 x0) {pv1 : Value} {x1 : List Int} (pr1 : G6 (VI .i64) 1 h pv1 x1) {r_0 : Int} (H : f x0 x1 = some r_0) : ∃ fid us vs,w = .func (.func fid) us.toArray vs.toArray∧∀ L : List E9,G8 prog fid (us ++ [pv0,pv1] ++ vs) h L (fun v h' L'=>v = .int .i64 r_0∧L' = L):=by
 rcases c.2 with n | ⟨fid,us,vs,e,k⟩
 ·rw [n] at H; cases H
 ·exact ⟨fid,us,vs,e,k h (Le.refl h) pr0 pr1 H⟩
def C6v : Vr ((List Int)→(List Int)→Option Int):=fun h cs f=>∃ w,cs = [w]∧A9A h w f
theorem C6v.mono : A0Y C6v:=fun _ _ _ _ l ⟨w,e,c⟩=>⟨w,e,c.mono l⟩
instance : MonoC C6v:=⟨C6v.mono⟩
def B8O (h : PH) (w : Value) (f : (List Int)→(List Int)→Option Bool) : Prop:=(w.oneCell' = true∧w.cells = [w].toArray)∧((∀ (x0 : List Int) (x1 : List Int),f x0 x1 = none)∨∃ fid us vs,w = .func (.func fid) us.toArray vs.toArray∧∀ h',Le h h'→∀ {pv0 : Value} {x0 : List Int} (pr0 : G6 (VI .i64) 1 h' pv0 x0) {pv1 : Value} {x1 : List Int} (pr1 : G6 (VI .i64) 1 h' pv1 x1) {r_0 : Bool} (H : f x0 x1 = some r_0) (L : List E9),G8 prog fid (us ++ [pv0,pv1] ++ vs) h' L (fun v h' L'=>v = .bool r_0∧L' = L))
theorem B8O.mono {h g : PH} {w : Value} {f : (List Int)→(List Int)→Option Bool} (c : B8O h w f) (l : Le h g) : B8O g w f:=⟨c.1,c.2.imp id fun ⟨fid,us,vs,e,k⟩=>⟨fid,us,vs,e,fun h' l'=>k h' (l.trans l')⟩⟩
theorem B8O.u {h g : PH} {w : Value} {f : (List Int)→(List Int)→Option Bool} [l : LeI h g] (c : B8O h w f) : B8O g w f:=c.mono l.le
theorem B8O.call {h : PH} {w : Value} {f : (List Int)→(List Int)→Option Bool} (c : B8O h w f) {pv0 : Value} {x0 : List Int} (pr0 : G6 (VI .i64) 1 h pv0 x0) {pv1 : Value} {x1 : List Int} (pr1 : G6 (VI .i64) 1 h pv1 x1) {r_0 : Bool} (H : f x0 x1 = some r_0) : ∃ fid us vs,w = .func (.func fid) us.toArray vs.toArray∧∀ L : List E9,G8 prog fid (us ++ [pv0,pv1] ++ vs) h L (fun v h' L'=>v = .bool r_0∧L' = L):=by
 rcases c.2 with n | ⟨fid,us,vs,e,k⟩
 ·rw [n] at H; cases H
 ·exact ⟨fid,us,vs,e,k h (Le.refl h) pr0 pr1 H⟩
def C9S : Vr ((List Int)→(List Int)→Option Bool):=fun h cs f=>∃ w,cs = [w]∧B8O h w f
theorem C9S.mono : A0Y C9S:=fun _ _ _ _ l ⟨w,e,c⟩=>⟨w,e,c.mono l⟩
instance : MonoC C9S:=⟨C9S.mono⟩
def A7Q (h : PH) (w : Value) (f : Int→Option Int) : Prop:=(w.oneCell' = true∧w.cells = [w].toArray)∧((∀ (x0 : Int),f x0 = none)∨∃ fid us vs,w = .func (.func fid) us.toArray vs.toArray∧∀ h',Le h h'→∀ {x0 : Int} {r_0 : Int} (H : f x0 = some r_0) (L : List E9),G8 prog fid (us ++ [.int .i64 x0] ++ vs) h' L (fun v h' L'=>v = .int .i64 r_0∧L' = L))
theorem A7Q.mono {h g : PH} {w : Value} {f : Int→Option Int} (c : A7Q h w f) (l : Le h g) : A7Q g w f:=⟨c.1,c.2.imp id fun ⟨fid,us,vs,e,k⟩=>⟨fid,us,vs,e,fun h' l'=>k h' (l.trans l')⟩⟩
theorem A7Q.u {h g : PH} {w : Value} {f : Int→Option Int} [l : LeI h g] (c : A7Q h w f) : A7Q g w f:=c.mono l.le
theorem A7Q.call {h : PH} {w : Value} {f : Int→Option Int} (c : A7Q h w f) {x0 : Int} {r_0 : Int} (H : f x0 = some r_0) : ∃ fid us vs,w = .func (.func fid) us.toArray vs.toArray∧∀ L : List E9,G8 prog fid (us ++ [.int .i64 x0] ++ vs) h L (fun v h' L'=>v = .int .i64 r_0∧L' = L):=by
 rcases c.2 with n | ⟨fid,us,vs,e,k⟩
 ·rw [n] at H; cases H
 ·exact ⟨fid,us,vs,e,k h (Le.refl h) H⟩
def A3h : Vr (Int→Option Int):=fun h cs f=>∃ w,cs = [w]∧A7Q h w f
theorem A3h.mono : A0Y A3h:=fun _ _ _ _ l ⟨w,e,c⟩=>⟨w,e,c.mono l⟩
instance : MonoC A3h:=⟨A3h.mono⟩
theorem A3h.plain : Plain A3h:=fun _ _ _ ⟨w,e,c⟩=>by rw [e]; simp only [Sl.ones,c.1.1]; rfl
def A7x (h : PH) (w : Value) (f : Int→Int→Int→Int→Option Bool) : Prop:=(w.oneCell' = true∧w.cells = [w].toArray)∧((∀ (x0 : Int) (x1 : Int) (x2 : Int) (x3 : Int),f x0 x1 x2 x3 = none)∨∃ fid us vs,w = .func (.func fid) us.toArray vs.toArray∧∀ h',Le h h'→∀ {x0 : Int} {x1 : Int} {x2 : Int} {x3 : Int} {r_0 : Bool} (H : f x0 x1 x2 x3 = some r_0) (L : List E9),G8 prog fid (us ++ [.int .i64 x0,.int .i64 x1,.int .i64 x2,.int .i64 x3] ++ vs) h' L (fun v h' L'=>v = .bool r_0∧L' = L))
theorem A7x.mono {h g : PH} {w : Value} {f : Int→Int→Int→Int→Option Bool} (c : A7x h w f) (l : Le h g) : A7x g w f:=⟨c.1,c.2.imp id fun ⟨fid,us,vs,e,k⟩=>⟨fid,us,vs,e,fun h' l'=>k h' (l.trans l')⟩⟩
theorem A7x.u {h g : PH} {w : Value} {f : Int→Int→Int→Int→Option Bool} [l : LeI h g] (c : A7x h w f) : A7x g w f:=c.mono l.le
theorem A7x.call {h : PH} {w : Value} {f : Int→Int→Int→Int→Option Bool} (c : A7x h w f) {x0 : Int} {x1 : Int} {x2 : Int} {x3 : Int} {r_0 : Bool} (H : f x0 x1 x2 x3 = some r_0) : ∃ fid us vs,w = .func (.func fid) us.toArray vs.toArray∧∀ L : List E9,G8 prog fid (us ++ [.int .i64 x0,.int .i64 x1,.int .i64 x2,.int .i64 x3] ++ vs) h L (fun v h' L'=>v = .bool r_0∧L' = L):=by
 rcases c.2 with n | ⟨fid,us,vs,e,k⟩
 ·rw [n] at H; cases H
 ·exact ⟨fid,us,vs,e,k h (Le.refl h) H⟩
def C6q : Vr (Int→Int→Int→Int→Option Bool):=fun h cs f=>∃ w,cs = [w]∧A7x h w f
theorem C6q.mono : A0Y C6q:=fun _ _ _ _ l ⟨w,e,c⟩=>⟨w,e,c.mono l⟩
instance : MonoC C6q:=⟨C6q.mono⟩
def B0W (h : PH) (w : Value) (f : Int→Int→Option (List (Int→Option Int))) : Prop:=(w.oneCell' = true∧w.cells = [w].toArray)∧((∀ (x0 : Int) (x1 : Int),f x0 x1 = none)∨∃ fid us vs,w = .func (.func fid) us.toArray vs.toArray∧∀ h',Le h h'→∀ {x0 : Int} {x1 : Int} {r_0 : List (Int→Option Int)} (H : f x0 x1 = some r_0) (L : List E9),G8 prog fid (us ++ [.int .i64 x0,.int .i64 x1] ++ vs) h' L (fun v h' L'=>L' = L∧G6 A3h 1 h' v r_0))
theorem B0W.mono {h g : PH} {w : Value} {f : Int→Int→Option (List (Int→Option Int))} (c : B0W h w f) (l : Le h g) : B0W g w f:=⟨c.1,c.2.imp id fun ⟨fid,us,vs,e,k⟩=>⟨fid,us,vs,e,fun h' l'=>k h' (l.trans l')⟩⟩
theorem B0W.u {h g : PH} {w : Value} {f : Int→Int→Option (List (Int→Option Int))} [l : LeI h g] (c : B0W h w f) : B0W g w f:=c.mono l.le
theorem B0W.call {h : PH} {w : Value} {f : Int→Int→Option (List (Int→Option Int))} (c : B0W h w f) {x0 : Int} {x1 : Int} {r_0 : List (Int→Option Int)} (H : f x0 x1 = some r_0) : ∃ fid us vs,w = .func (.func fid) us.toArray vs.toArray∧∀ L : List E9,G8 prog fid (us ++ [.int .i64 x0,.int .i64 x1] ++ vs) h L (fun v h' L'=>L' = L∧G6 A3h 1 h' v r_0):=by
 rcases c.2 with n | ⟨fid,us,vs,e,k⟩
 ·rw [n] at H; cases H
 ·exact ⟨fid,us,vs,e,k h (Le.refl h) H⟩
def C6z : Vr (Int→Int→Option (List (Int→Option Int))):=fun h cs f=>∃ w,cs = [w]∧B0W h w f
theorem C6z.mono : A0Y C6z:=fun _ _ _ _ l ⟨w,e,c⟩=>⟨w,e,c.mono l⟩
instance : MonoC C6z:=⟨C6z.mono⟩
def A9g : Vr A1E:=fun h cs x=>∃ v1 v3 v5 v7 v9,cs = [.string x.A7v,v1,v3,v5,v7,v9]∧B3F h v1 x.A0j∧A7x h v3 x.A5i∧A7x h v5 x.A5e∧B3F h v7 x.B9n∧B0W h v9 x.C5N
theorem A9g.mono : A0Y A9g:=fun h g cs x l ⟨v1,v3,v5,v7,v9,e,hF2,hF4,hF6,hF8,hF10⟩=>⟨v1,v3,v5,v7,v9,e,B3F.mono hF2 l,A7x.mono hF4 l,A7x.mono hF6 l,B3F.mono hF8 l,B0W.mono hF10 l⟩
instance : MonoC A9g:=⟨A9g.mono⟩
def A6T : Vr U6:=fun h cs x=>∃ v1 v3,cs = [v1,v3]∧G6 F9 9 h v1 x.Z8∧G6 H7 3 h v3 x.A1z
theorem A6T.mono : A0Y A6T:=fun h g cs x l ⟨v1,v3,e,hS2,hS4⟩=>⟨v1,v3,e,G6.mono F9.mono hS2 l,G6.mono H7.mono hS4 l⟩
instance : MonoC A6T:=⟨A6T.mono⟩
def A1c : Vr K4:=fun h cs x=>∃ v1 v3 v5,cs = [v1,v3,v5]∧G6 F9 9 h v1 x.K5.Z8∧G6 H7 3 h v3 x.K5.A1z∧Mp Value.string false (VI .i64) h v5 x.fat
theorem A1c.mono : A0Y A1c:=fun h g cs x l ⟨v1,v3,v5,e,hS2,hS4,hM6⟩=>⟨v1,v3,v5,e,G6.mono F9.mono hS2 l,G6.mono H7.mono hS4 l,Mp.mono VI.mono hM6 l⟩
instance : MonoC A1c:=⟨A1c.mono⟩
def A7y (h : PH) (w : Value) (f : F5→F5→Option Int) : Prop:=(w.oneCell' = true∧w.cells = [w].toArray)∧((∀ (x0 : F5) (x1 : F5),f x0 x1 = none)∨∃ fid us vs,w = .func (.func fid) us.toArray vs.toArray∧∀ h',Le h h'→∀ {pc0 : List Value} {x0 : F5} (pr0 : H7 h' pc0 x0) {pc1 : List Value} {x1 : F5} (pr1 : H7 h' pc1 x1) {r_0 : Int} (H : f x0 x1 = some r_0) (L : List E9),G8 prog fid (us ++ [.agg pc0.toArray,.agg pc1.toArray] ++ vs) h' L (fun v h' L'=>v = .int .i64 r_0∧L' = L))
theorem A7y.mono {h g : PH} {w : Value} {f : F5→F5→Option Int} (c : A7y h w f) (l : Le h g) : A7y g w f:=⟨c.1,c.2.imp id fun ⟨fid,us,vs,e,k⟩=>⟨fid,us,vs,e,fun h' l'=>k h' (l.trans l')⟩⟩
theorem A7y.u {h g : PH} {w : Value} {f : F5→F5→Option Int} [l : LeI h g] (c : A7y h w f) : A7y g w f:=c.mono l.le
theorem A7y.call {h : PH} {w : Value} {f : F5→F5→Option Int} (c : A7y h w f) {pc0 : List Value} {x0 : F5} (pr0 : H7 h pc0 x0) {pc1 : List Value} {x1 : F5} (pr1 : H7 h pc1 x1) {r_0 : Int} (H : f x0 x1 = some r_0) : ∃ fid us vs,w = .func (.func fid) us.toArray vs.toArray∧∀ L : List E9,G8 prog fid (us ++ [.agg pc0.toArray,.agg pc1.toArray] ++ vs) h L (fun v h' L'=>v = .int .i64 r_0∧L' = L):=by
 rcases c.2 with n | ⟨fid,us,vs,e,k⟩
 ·rw [n] at H; cases H
 ·exact ⟨fid,us,vs,e,k h (Le.refl h) pr0 pr1 H⟩
def C6r : Vr (F5→F5→Option Int):=fun h cs f=>∃ w,cs = [w]∧A7y h w f
theorem C6r.mono : A0Y C6r:=fun _ _ _ _ l ⟨w,e,c⟩=>⟨w,e,c.mono l⟩
instance : MonoC C6r:=⟨C6r.mono⟩
def B1a : Vr R4:=fun h cs x=>∃ v1 v3,cs = [v1,v3]∧G6 F9 9 h v1 x.A8∧G6 H7 3 h v3 x.I8
theorem B1a.mono : A0Y B1a:=fun h g cs x l ⟨v1,v3,e,hS2,hS4⟩=>⟨v1,v3,e,G6.mono F9.mono hS2 l,G6.mono H7.mono hS4 l⟩
instance : MonoC B1a:=⟨B1a.mono⟩
def M3 : Vr A9:=fun h cs x=>∃ v1 v3 v5 v7 v9,cs = [v1,v3,v5,v7,v9]∧G6 F7 7 h v1 x.D7∧G6 F9 9 h v3 x.A8∧G6 H7 3 h v5 x.I8∧G6 (VI .i64) 1 h v7 x.I6∧G6 H5 6 h v9 x.J3
theorem M3.mono : A0Y M3:=fun h g cs x l ⟨v1,v3,v5,v7,v9,e,hS2,hS4,hS6,hS8,hS10⟩=>⟨v1,v3,v5,v7,v9,e,G6.mono F7.mono hS2 l,G6.mono F9.mono hS4 l,G6.mono H7.mono hS6 l,G6.mono VI.mono hS8 l,G6.mono H5.mono hS10 l⟩
instance : MonoC M3:=⟨M3.mono⟩
def K6 : Vr I5:=fun h cs x=>cs = [.string x.A7v,.int .u8 x.fa,.bool x.fb,.int .u8 x.ft,.bool x.fn,.int .i64 x.flo,.bool x.C6n,(fnV x.C5k)]
theorem K6.mono : A0Y K6:=fun h g cs x l e=>e
instance : MonoC K6:=⟨K6.mono⟩
def P5 : Vr X7:=fun h cs x=>∃ v1 v3 v5 v7 v9 v11 v13 v15 v17 v19 v21 v23 v25 v27,cs = [v1,v3,v5,v7,v9,v11,v13,v15,v17,v19,v21,v23,v25,v27]∧G6 F7 7 h v1 x.A1C.D7∧G6 F9 9 h v3 x.A1C.A8∧G6 H7 3 h v5 x.A1C.I8∧G6 (VI .i64) 1 h v7 x.A1C.I6∧G6 H5 6 h v9 x.A1C.J3∧Mp (Value.int .u8) true K6 h v11 x.C3T∧G6 (VI .i64) 1 h v13 x.A4d∧G6 (VI .i64) 1 h v15 x.C9t∧G6 VB 1 h v17 x.D0h∧G6 (VSl (VI .i64) 1) 1 h v19 x.A5i∧G6 (VSl (VI .i64) 1) 1 h v21 x.A5e∧G6 (VMp (Value.int .i64) false (VI .i64)) 1 h v23 x.A2g∧G6 (VSl VB 1) 1 h v25 x.C3W∧G6 (VSl (VI .u8) 1) 1 h v27 x.A1z
theorem P5.mono : A0Y P5:=fun h g cs x l ⟨v1,v3,v5,v7,v9,v11,v13,v15,v17,v19,v21,v23,v25,v27,e,hS2,hS4,hS6,hS8,hS10,hM12,hS14,hS16,hS18,hS20,hS22,hS24,hS26,hS28⟩=>⟨v1,v3,v5,v7,v9,v11,v13,v15,v17,v19,v21,v23,v25,v27,e,G6.mono F7.mono hS2 l,G6.mono F9.mono hS4 l,G6.mono H7.mono hS6 l,G6.mono VI.mono hS8 l,G6.mono H5.mono hS10 l,Mp.mono K6.mono hM12 l,G6.mono VI.mono hS14 l,G6.mono VI.mono hS16 l,G6.mono VB.mono hS18 l,G6.mono (VSl.mono VI.mono) hS20 l,G6.mono (VSl.mono VI.mono) hS22 l,G6.mono (VMp.mono VI.mono) hS24 l,G6.mono (VSl.mono VB.mono) hS26 l,G6.mono (VSl.mono VI.mono) hS28 l⟩
instance : MonoC P5:=⟨P5.mono⟩
def U4 : Vr O8:=fun h cs x=>∃ v1 v3 v5,cs = [v1,v3,v5]∧Pt P5 h v1 x.Q0∧G6 (VI .i64) 1 h v3 x.U3∧G6 (VI .i64) 1 h v5 x.D0U
theorem U4.mono : A0Y U4:=fun h g cs x l ⟨v1,v3,v5,e,hP2,hS4,hS6⟩=>⟨v1,v3,v5,e,Pt.mono P5.mono hP2 l,G6.mono VI.mono hS4 l,G6.mono VI.mono hS6 l⟩
instance : MonoC U4:=⟨U4.mono⟩
def A1R {σ : Type} (R : σ→PH→List E9→Prop) (h : PH) (w : Value) (f : σ→Int→(List Int)→Option σ) : Prop:=(w.oneCell' = true∧w.cells = [w].toArray)∧(∀ s h h' La,Le h h'→R s h La→R s h' La)∧∀ h',Le h h'→∀ {x0 : Int} {pv1 : Value} {x1 : List Int} (pr1 : G6 (VI .i64) 1 h' pv1 x1) {s s' : σ} {La : List E9}  (hR : R s h' La) (H : f s x0 x1 = some s') (As L : List E9),Yld prog w [.int .i64 x0,pv1] h' (As ++ (La ++ L)) (fun v h2 L'=>∃ La',v = .tuple #[]∧L' = As ++ (La' ++ L)∧R s' h2 La')
theorem A1R.mono {σ : Type} {R : σ→PH→List E9→Prop} {h g : PH} {w : Value} {f : σ→Int→(List Int)→Option σ} (c : A1R R h w f) (l : Le h g) : A1R R g w f:=⟨c.1,c.2.1,fun h' l'=>c.2.2 h' (l.trans l')⟩
theorem A1R.u {σ : Type} {R : σ→PH→List E9→Prop} {h g : PH} {w : Value} {f : σ→Int→(List Int)→Option σ} [l : LeI h g] (c : A1R R h w f) : A1R R g w f:=c.mono l.le
theorem A1R.call {σ : Type} {R : σ→PH→List E9→Prop} {h : PH} {w : Value} {f : σ→Int→(List Int)→Option σ} (c : A1R R h w f) : ∀ {x0 : Int} {pv1 : Value} {x1 : List Int} (pr1 : G6 (VI .i64) 1 h pv1 x1) {s s' : σ} {La : List E9}  (hR : R s h La) (H : f s x0 x1 = some s') (As L : List E9),Yld prog w [.int .i64 x0,pv1] h (As ++ (La ++ L)) (fun v h2 L'=>∃ La',v = .tuple #[]∧L' = As ++ (La' ++ L)∧R s' h2 La'):=fun pr1=>fun hR H As L=>c.2.2 h (Le.refl h) pr1 hR H As L
def B6K (h : PH) (w : Value) (f : Int→Int→Option Bool) : Prop:=(w.oneCell' = true∧w.cells = [w].toArray)∧((∀ (x0 : Int) (x1 : Int),f x0 x1 = none)∨∃ fid us vs,w = .func (.func fid) us.toArray vs.toArray∧∀ h',Le h h'→∀ {x0 : Int} {x1 : Int} {r_0 : Bool} (H : f x0 x1 = some r_0) (L : List E9),G8 prog fid (us ++ [.int .i64 x0,.int .i64 x1] ++ vs) h' L (fun v h' L'=>v = .bool r_0∧L' = L))
theorem B6K.mono {h g : PH} {w : Value} {f : Int→Int→Option Bool} (c : B6K h w f) (l : Le h g) : B6K g w f:=⟨c.1,c.2.imp id fun ⟨fid,us,vs,e,k⟩=>⟨fid,us,vs,e,fun h' l'=>k h' (l.trans l')⟩⟩
theorem B6K.u {h g : PH} {w : Value} {f : Int→Int→Option Bool} [l : LeI h g] (c : B6K h w f) : B6K g w f:=c.mono l.le
theorem B6K.call {h : PH} {w : Value} {f : Int→Int→Option Bool} (c : B6K h w f) {x0 : Int} {x1 : Int} {r_0 : Bool} (H : f x0 x1 = some r_0) : ∃ fid us vs,w = .func (.func fid) us.toArray vs.toArray∧∀ L : List E9,G8 prog fid (us ++ [.int .i64 x0,.int .i64 x1] ++ vs) h L (fun v h' L'=>v = .bool r_0∧L' = L):=by
 rcases c.2 with n | ⟨fid,us,vs,e,k⟩
 ·rw [n] at H; cases H
 ·exact ⟨fid,us,vs,e,k h (Le.refl h) H⟩
def C6S : Vr (Int→Int→Option Bool):=fun h cs f=>∃ w,cs = [w]∧B6K h w f
theorem C6S.mono : A0Y C6S:=fun _ _ _ _ l ⟨w,e,c⟩=>⟨w,e,c.mono l⟩
instance : MonoC C6S:=⟨C6S.mono⟩
def B0F (h : PH) (w : Value) (f : O8→Int→Option Int) : Prop:=(w.oneCell' = true∧w.cells = [w].toArray)∧((∀ (x0 : O8) (x1 : Int),f x0 x1 = none)∨∃ fid us vs,w = .func (.func fid) us.toArray vs.toArray∧∀ h',Le h h'→∀ {pv0 : Value} {x0 : O8} (pr0 : Pt U4 h' pv0 x0) {x1 : Int} {r_0 : Int} (H : f x0 x1 = some r_0) (L : List E9),G8 prog fid (us ++ [pv0,.int .i64 x1] ++ vs) h' L (fun v h' L'=>v = .int .i64 r_0∧L' = L))
theorem B0F.mono {h g : PH} {w : Value} {f : O8→Int→Option Int} (c : B0F h w f) (l : Le h g) : B0F g w f:=⟨c.1,c.2.imp id fun ⟨fid,us,vs,e,k⟩=>⟨fid,us,vs,e,fun h' l'=>k h' (l.trans l')⟩⟩
theorem B0F.u {h g : PH} {w : Value} {f : O8→Int→Option Int} [l : LeI h g] (c : B0F h w f) : B0F g w f:=c.mono l.le
theorem B0F.call {h : PH} {w : Value} {f : O8→Int→Option Int} (c : B0F h w f) {pv0 : Value} {x0 : O8} (pr0 : Pt U4 h pv0 x0) {x1 : Int} {r_0 : Int} (H : f x0 x1 = some r_0) : ∃ fid us vs,w = .func (.func fid) us.toArray vs.toArray∧∀ L : List E9,G8 prog fid (us ++ [pv0,.int .i64 x1] ++ vs) h L (fun v h' L'=>v = .int .i64 r_0∧L' = L):=by
 rcases c.2 with n | ⟨fid,us,vs,e,k⟩
 ·rw [n] at H; cases H
 ·exact ⟨fid,us,vs,e,k h (Le.refl h) pr0 H⟩
def C6x : Vr (O8→Int→Option Int):=fun h cs f=>∃ w,cs = [w]∧B0F h w f
theorem C6x.mono : A0Y C6x:=fun _ _ _ _ l ⟨w,e,c⟩=>⟨w,e,c.mono l⟩
instance : MonoC C6x:=⟨C6x.mono⟩
def B2o {σ : Type} (R : σ→PH→List E9→Prop) (h : PH) (w : Value) (f : σ→(List Int)→Option (σ×Bool)) : Prop:=(w.oneCell' = true∧w.cells = [w].toArray)∧(∀ s h h' La,Le h h'→R s h La→R s h' La)∧∀ h',Le h h'→∀ {pv0 : Value} {x0 : List Int} (pr0 : G6 (VI .i64) 1 h' pv0 x0) {s s' : σ} {La : List E9} {r_0 : Bool} (hR : R s h' La) (H : f s x0 = some (s',r_0)) (As L : List E9),Yld prog w [pv0] h' (As ++ (La ++ L)) (fun v h2 L'=>∃ La',v = .bool r_0∧L' = As ++ (La' ++ L)∧R s' h2 La')
theorem B2o.mono {σ : Type} {R : σ→PH→List E9→Prop} {h g : PH} {w : Value} {f : σ→(List Int)→Option (σ×Bool)} (c : B2o R h w f) (l : Le h g) : B2o R g w f:=⟨c.1,c.2.1,fun h' l'=>c.2.2 h' (l.trans l')⟩
theorem B2o.u {σ : Type} {R : σ→PH→List E9→Prop} {h g : PH} {w : Value} {f : σ→(List Int)→Option (σ×Bool)} [l : LeI h g] (c : B2o R h w f) : B2o R g w f:=c.mono l.le
theorem B2o.call {σ : Type} {R : σ→PH→List E9→Prop} {h : PH} {w : Value} {f : σ→(List Int)→Option (σ×Bool)} (c : B2o R h w f) : ∀ {pv0 : Value} {x0 : List Int} (pr0 : G6 (VI .i64) 1 h pv0 x0) {s s' : σ} {La : List E9} {r_0 : Bool} (hR : R s h La) (H : f s x0 = some (s',r_0)) (As L : List E9),Yld prog w [pv0] h (As ++ (La ++ L)) (fun v h2 L'=>∃ La',v = .bool r_0∧L' = As ++ (La' ++ L)∧R s' h2 La'):=fun pr0=>fun hR H As L=>c.2.2 h (Le.refl h) pr0 hR H As L
def A0d : Vr A1b:=fun h cs x=>∃ v1 v3 v5 v7 v9 v11 v13 v15 v17,cs = [v1,v3,v5,v7,v9,v11,v13,v15,v17]∧Pt P5 h v1 x.Q0∧G6 F7 7 h v3 x.fp.D7∧G6 F9 9 h v5 x.fp.A8∧G6 H7 3 h v7 x.fp.I8∧G6 (VI .i64) 1 h v9 x.fp.I6∧G6 H5 6 h v11 x.fp.J3∧G6 (VI .i64) 1 h v13 x.A4d∧G6 (VI .i64) 1 h v15 x.C8J∧G6 (VSl (VSl (VI .i64) 1) 1) 1 h v17 x.B9p
theorem A0d.mono : A0Y A0d:=fun h g cs x l ⟨v1,v3,v5,v7,v9,v11,v13,v15,v17,e,hP2,hS4,hS6,hS8,hS10,hS12,hS14,hS16,hS18⟩=>⟨v1,v3,v5,v7,v9,v11,v13,v15,v17,e,Pt.mono P5.mono hP2 l,G6.mono F7.mono hS4 l,G6.mono F9.mono hS6 l,G6.mono H7.mono hS8 l,G6.mono VI.mono hS10 l,G6.mono H5.mono hS12 l,G6.mono VI.mono hS14 l,G6.mono VI.mono hS16 l,G6.mono (VSl.mono (VSl.mono VI.mono)) hS18 l⟩
instance : MonoC A0d:=⟨A0d.mono⟩
def A0c : Vr Y2:=fun h cs x=>cs = [.int .u8 x.H8,.int .i64 x.fN]
theorem A0c.mono : A0Y A0c:=fun h g cs x l e=>e
instance : MonoC A0c:=⟨A0c.mono⟩
theorem A0c.plain : Plain A0c:=fun h cs x e=>by rw [show cs = _ from e]; rfl
def A6P : Vr A0h:=fun h cs x=>∃ v1 v3 v5,cs = [v1,.int .i64 x.A1e,v3,.int .i64 x.fat,v5]∧Pt A0d h v1 x.A3v∧G6 A0c 2 h v3 x.A2g∧G6 (VI .i64) 1 h v5 x.U3
theorem A6P.mono : A0Y A6P:=fun h g cs x l ⟨v1,v3,v5,e,hP2,hS4,hS6⟩=>⟨v1,v3,v5,e,Pt.mono A0d.mono hP2 l,G6.mono A0c.mono hS4 l,G6.mono VI.mono hS6 l⟩
instance : MonoC A6P:=⟨A6P.mono⟩
def A8k : Vr A1X:=fun h cs x=>cs = [.int .i64 x.fat,.int .i64 x.fe]
theorem A8k.mono : A0Y A8k:=fun h g cs x l e=>e
instance : MonoC A8k:=⟨A8k.mono⟩
def A7b : Vr U7:=fun h cs x=>∃ v1 v3 v5,cs = [v1,.int .i64 x.A1e,v3,v5]∧Pt A0d h v1 x.A3v∧G6 A0c 2 h v3 x.A2g∧G6 (VI .i64) 1 h v5 x.U3
theorem A7b.mono : A0Y A7b:=fun h g cs x l ⟨v1,v3,v5,e,hP2,hS4,hS6⟩=>⟨v1,v3,v5,e,Pt.mono A0d.mono hP2 l,G6.mono A0c.mono hS4 l,G6.mono VI.mono hS6 l⟩
instance : MonoC A7b:=⟨A7b.mono⟩
def Q8 : Vr H6:=fun h cs x=>∃ v1 v3 v5 v7 v9 v11 v13,cs = [v1,v3,v5,v7,v9,v11,v13,.int .i64 x.A0j]∧Pt P5 h v1 x.Q0∧G6 F7 7 h v3 x.fp.D7∧G6 F9 9 h v5 x.fp.A8∧G6 H7 3 h v7 x.fp.I8∧G6 (VI .i64) 1 h v9 x.fp.I6∧G6 H5 6 h v11 x.fp.J3∧G6 (VI .i64) 1 h v13 x.U3
theorem Q8.mono : A0Y Q8:=fun h g cs x l ⟨v1,v3,v5,v7,v9,v11,v13,e,hP2,hS4,hS6,hS8,hS10,hS12,hS14⟩=>⟨v1,v3,v5,v7,v9,v11,v13,e,Pt.mono P5.mono hP2 l,G6.mono F7.mono hS4 l,G6.mono F9.mono hS6 l,G6.mono H7.mono hS8 l,G6.mono VI.mono hS10 l,G6.mono H5.mono hS12 l,G6.mono VI.mono hS14 l⟩
instance : MonoC Q8:=⟨Q8.mono⟩
def A8O (h : PH) (w : Value) (f : F5→Option Bool) : Prop:=(w.oneCell' = true∧w.cells = [w].toArray)∧((∀ (x0 : F5),f x0 = none)∨∃ fid us vs,w = .func (.func fid) us.toArray vs.toArray∧∀ h',Le h h'→∀ {pc0 : List Value} {x0 : F5} (pr0 : H7 h' pc0 x0) {r_0 : Bool} (H : f x0 = some r_0) (L : List E9),G8 prog fid (us ++ [.agg pc0.toArray] ++ vs) h' L (fun v h' L'=>v = .bool r_0∧L' = L))
theorem A8O.mono {h g : PH} {w : Value} {f : F5→Option Bool} (c : A8O h w f) (l : Le h g) : A8O g w f:=⟨c.1,c.2.imp id fun ⟨fid,us,vs,e,k⟩=>⟨fid,us,vs,e,fun h' l'=>k h' (l.trans l')⟩⟩
theorem A8O.u {h g : PH} {w : Value} {f : F5→Option Bool} [l : LeI h g] (c : A8O h w f) : A8O g w f:=c.mono l.le
theorem A8O.call {h : PH} {w : Value} {f : F5→Option Bool} (c : A8O h w f) {pc0 : List Value} {x0 : F5} (pr0 : H7 h pc0 x0) {r_0 : Bool} (H : f x0 = some r_0) : ∃ fid us vs,w = .func (.func fid) us.toArray vs.toArray∧∀ L : List E9,G8 prog fid (us ++ [.agg pc0.toArray] ++ vs) h L (fun v h' L'=>v = .bool r_0∧L' = L):=by
 rcases c.2 with n | ⟨fid,us,vs,e,k⟩
 ·rw [n] at H; cases H
 ·exact ⟨fid,us,vs,e,k h (Le.refl h) pr0 H⟩
def C6V : Vr (F5→Option Bool):=fun h cs f=>∃ w,cs = [w]∧A8O h w f
theorem C6V.mono : A0Y C6V:=fun _ _ _ _ l ⟨w,e,c⟩=>⟨w,e,c.mono l⟩
instance : MonoC C6V:=⟨C6V.mono⟩
def A9o (h : PH) (w : Value) (f : F6→Option Bool) : Prop:=(w.oneCell' = true∧w.cells = [w].toArray)∧((∀ (x0 : F6),f x0 = none)∨∃ fid us vs,w = .func (.func fid) us.toArray vs.toArray∧∀ h',Le h h'→∀ {pc0 : List Value} {x0 : F6} (pr0 : H5 h' pc0 x0) {r_0 : Bool} (H : f x0 = some r_0) (L : List E9),G8 prog fid (us ++ [.agg pc0.toArray] ++ vs) h' L (fun v h' L'=>v = .bool r_0∧L' = L))
theorem A9o.mono {h g : PH} {w : Value} {f : F6→Option Bool} (c : A9o h w f) (l : Le h g) : A9o g w f:=⟨c.1,c.2.imp id fun ⟨fid,us,vs,e,k⟩=>⟨fid,us,vs,e,fun h' l'=>k h' (l.trans l')⟩⟩
theorem A9o.u {h g : PH} {w : Value} {f : F6→Option Bool} [l : LeI h g] (c : A9o h w f) : A9o g w f:=c.mono l.le
theorem A9o.call {h : PH} {w : Value} {f : F6→Option Bool} (c : A9o h w f) {pc0 : List Value} {x0 : F6} (pr0 : H5 h pc0 x0) {r_0 : Bool} (H : f x0 = some r_0) : ∃ fid us vs,w = .func (.func fid) us.toArray vs.toArray∧∀ L : List E9,G8 prog fid (us ++ [.agg pc0.toArray] ++ vs) h L (fun v h' L'=>v = .bool r_0∧L' = L):=by
 rcases c.2 with n | ⟨fid,us,vs,e,k⟩
 ·rw [n] at H; cases H
 ·exact ⟨fid,us,vs,e,k h (Le.refl h) pr0 H⟩
def C6w : Vr (F6→Option Bool):=fun h cs f=>∃ w,cs = [w]∧A9o h w f
theorem C6w.mono : A0Y C6w:=fun _ _ _ _ l ⟨w,e,c⟩=>⟨w,e,c.mono l⟩
instance : MonoC C6w:=⟨C6w.mono⟩
def Y9 : Vr V4:=fun h cs x=>∃ v1,cs = [.int .u8 x.H8,.string x.L6.F8,.string x.L6.A0k,.string x.L6.V9,.int .i64 x.L6.V3,.int .i64 x.L6.A0f,.string x.L6.Z0,.bool x.L6.A0u,.bool x.L6.U2,v1,.string x.fA,.string x.fB,.string x.R6,.int .i64 x.fN,.int .u8 x.A3M.H8,.int .i64 x.A3M.Q3,.string x.A3M.fA,.string x.A3M.fB,.string x.A3M.R6,.int .i64 x.A3M.fN]∧G6 VS 1 h v1 x.L6.M6
theorem Y9.mono : A0Y Y9:=fun h g cs x l ⟨v1,e,hS2⟩=>⟨v1,e,G6.mono VS.mono hS2 l⟩
instance : MonoC Y9:=⟨Y9.mono⟩
def B1C : Vr A8q:=fun h cs x=>cs = [.string x.A7v,(fnV x.B5J),(fnV x.B5L),(fnV x.C6J),(fnV x.C3z)]
theorem B1C.mono : A0Y B1C:=fun h g cs x l e=>e
instance : MonoC B1C:=⟨B1C.mono⟩
def B1w : Vr Z9:=fun h cs x=>∃ v1,cs = [v1,.int .i64 x.A1N]∧G6 (VI .i64) 1 h v1 x.A3K
theorem B1w.mono : A0Y B1w:=fun h g cs x l ⟨v1,e,hS2⟩=>⟨v1,e,G6.mono VI.mono hS2 l⟩
instance : MonoC B1w:=⟨B1w.mono⟩
def B1y : Vr A5u:=fun h cs x=>∃ v1 v3 v5 v7 v9 v11,cs = [v1,v3,v5,v7,v9,v11,.int .i64 x.A6A,.int .i64 x.A1N]∧G6 F7 7 h v1 x.A0J.D7∧G6 F9 9 h v3 x.A0J.A8∧G6 H7 3 h v5 x.A0J.I8∧G6 (VI .i64) 1 h v7 x.A0J.I6∧G6 H5 6 h v9 x.A0J.J3∧G6 (VI .i64) 1 h v11 x.A3K
theorem B1y.mono : A0Y B1y:=fun h g cs x l ⟨v1,v3,v5,v7,v9,v11,e,hS2,hS4,hS6,hS8,hS10,hS12⟩=>⟨v1,v3,v5,v7,v9,v11,e,G6.mono F7.mono hS2 l,G6.mono F9.mono hS4 l,G6.mono H7.mono hS6 l,G6.mono VI.mono hS8 l,G6.mono H5.mono hS10 l,G6.mono VI.mono hS12 l⟩
instance : MonoC B1y:=⟨B1y.mono⟩
def C5s : Vr R4:=fun h cs x=>∃ v1 v3,cs = [v1,v3]∧G6 F9 9 h v1 x.A8
def C3v : Vr C8:=fun h cs x=>∃ v1,cs = [.string x.F8,.int .u8 x.O6,.int .i64 x.fA,.int .i64 x.fB,v1,.int .i64 x.fX,.int .i64 x.fY]
def C0f : Vr A9:=fun h cs x=>∃ v1 v3 v5 v7 v9,cs = [v1,v3,v5,v7,v9]∧G6 F7 7 h v1 x.D7∧G6 F9 9 h v3 x.A8∧G6 H7 3 h v5 x.I8∧G6 (VI .i64) 1 h v7 x.I6
def A1h : Vr A0g:=fun h cs x=>∃ v1 v3 v5 v7,cs = [v1,v3,v5,v7]∧G6 (VI .u8) 1 h v1 x.D7∧G6 (VI .u16) 1 h v3 x.A8∧G6 (VI .u8) 1 h v5 x.I8∧G6 (VI .u32) 1 h v7 x.J3
theorem A1h.mono : A0Y A1h:=fun h g cs x l ⟨v1,v3,v5,v7,e,hS2,hS4,hS6,hS8⟩=>⟨v1,v3,v5,v7,e,G6.mono VI.mono hS2 l,G6.mono VI.mono hS4 l,G6.mono VI.mono hS6 l,G6.mono VI.mono hS8 l⟩
instance : MonoC A1h:=⟨A1h.mono⟩
end Go.Dm
