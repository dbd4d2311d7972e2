import Derived.Test.YthchjfilgaondaaGreatChecked
import Derived.Test.YthchjfilgaondaaGreatDa
import Derived.Test.YthchjfilgaondaaGreatL10
/- How values stand for data. -/
set_option maxRecDepth 1000000
set_option maxHeartbeats 40000000
set_option linter.unusedVariables false
set_option linter.unusedSimpArgs false
set_option linter.unnecessarySimpa false
open Go Go.Proofs Go.Proofs.Tryz Go.Sl
namespace Go.Dm
def A2z (h:PH) (w:Value) (f:Int→Option Bool):Prop:=(w.oneCell'=true∧w.cells=[w].toArray)∧((∀ (x0:Int),f x0=none)∨∃ fid us vs,w=.func (.func fid) us.toArray vs.toArray∧∀ h',Le h h'→∀ {x0:Int} {r_0:Bool} (H:f x0=some r_0) (L:List D9),J6 prog fid (us ++ [.int .i64 x0] ++ vs) h' L (fun v h' L'=>v=.bool r_0∧L'=L))
theorem A2z.mono {h g:PH} {w:Value} {f:Int→Option Bool} (c:A2z h w f) (l:Le h g):A2z g w f:=⟨c.1,c.2.imp id fun ⟨fid,us,vs,e,k⟩=>⟨fid,us,vs,e,fun h' l'=>k h' (l.trans l')⟩⟩
theorem A2z.u {h g:PH} {w:Value} {f:Int→Option Bool} [l:LeI h g] (c:A2z h w f):A2z g w f:=c.mono l.le
theorem A2z.call {h:PH} {w:Value} {f:Int→Option Bool} (c:A2z h w f) {x0:Int} {r_0:Bool} (H:f x0=some r_0):∃ fid us vs,w=.func (.func fid) us.toArray vs.toArray∧∀ L:List D9,J6 prog fid (us ++ [.int .i64 x0] ++ vs) h L (fun v h' L'=>v=.bool r_0∧L'=L):=by
 rcases c.2 with n | ⟨fid,us,vs,e,k⟩
 ·rw [n] at H; cases H
 ·exact ⟨fid,us,vs,e,k h (Le.refl h) H⟩
def C2p:Vr (Int→Option Bool):=fun h cs f=>∃ w,cs=[w]∧A2z h w f
theorem C2p.mono:A1g C2p:=fun _ _ _ _ l ⟨w,e,c⟩=>⟨w,e,c.mono l⟩
instance:MonoC C2p:=⟨C2p.mono⟩
def I6:Vr D5:=fun h cs x=>∃ v1,cs=[.string x.F7,.int .u8 x.Q4,.int .i64 x.fA,.int .i64 x.fB,v1,.int .i64 x.fX,.int .i64 x.fY]∧F8 (VI .i64) 1 h v1 x.A2M
theorem I6.mono:A1g I6:=fun h g cs x l ⟨v1,e,hS2⟩=>⟨v1,e,F8.mono VI.mono hS2 l⟩
instance:MonoC I6:=⟨I6.mono⟩
theorem I6.plain:Plain I6:=fun h cs x ⟨v1,e,hS2⟩=>by rw [e]; (simp only [Sl.ones,C6J,F8.one hS2,Bool.and_true,Bool.true_and]) <;> rfl
def B0O (h:PH) (w:Value) (f:D5→Option Bool):Prop:=(w.oneCell'=true∧w.cells=[w].toArray)∧((∀ (x0:D5),f x0=none)∨∃ fid us vs,w=.func (.func fid) us.toArray vs.toArray∧∀ h',Le h h'→∀ {pc0:List Value} {x0:D5} (pr0:I6 h' pc0 x0) {r_0:Bool} (H:f x0=some r_0) (L:List D9),J6 prog fid (us ++ [.agg pc0.toArray] ++ vs) h' L (fun v h' L'=>v=.bool r_0∧L'=L))
theorem B0O.mono {h g:PH} {w:Value} {f:D5→Option Bool} (c:B0O h w f) (l:Le h g):B0O g w f:=⟨c.1,c.2.imp id fun ⟨fid,us,vs,e,k⟩=>⟨fid,us,vs,e,fun h' l'=>k h' (l.trans l')⟩⟩
theorem B0O.u {h g:PH} {w:Value} {f:D5→Option Bool} [l:LeI h g] (c:B0O h w f):B0O g w f:=c.mono l.le
theorem B0O.call {h:PH} {w:Value} {f:D5→Option Bool} (c:B0O h w f) {pc0:List Value} {x0:D5} (pr0:I6 h pc0 x0) {r_0:Bool} (H:f x0=some r_0):∃ fid us vs,w=.func (.func fid) us.toArray vs.toArray∧∀ L:List D9,J6 prog fid (us ++ [.agg pc0.toArray] ++ vs) h L (fun v h' L'=>v=.bool r_0∧L'=L):=by
 rcases c.2 with n | ⟨fid,us,vs,e,k⟩
 ·rw [n] at H; cases H
 ·exact ⟨fid,us,vs,e,k h (Le.refl h) pr0 H⟩
def C6E:Vr (D5→Option Bool):=fun h cs f=>∃ w,cs=[w]∧B0O h w f
theorem C6E.mono:A1g C6E:=fun _ _ _ _ l ⟨w,e,c⟩=>⟨w,e,c.mono l⟩
instance:MonoC C6E:=⟨C6E.mono⟩
def I8:Vr E8:=fun h cs x=>∃ v1,cs=[.string x.F7,.string x.A1S,.string x.W9,.int .i64 x.A0h,.int .i64 x.A0r,.string x.A0t,.bool x.A0s,.bool x.Y6,v1]∧F8 VS 1 h v1 x.O4
theorem I8.mono:A1g I8:=fun h g cs x l ⟨v1,e,hS2⟩=>⟨v1,e,F8.mono VS.mono hS2 l⟩
instance:MonoC I8:=⟨I8.mono⟩
theorem I8.plain:Plain I8:=fun h cs x ⟨v1,e,hS2⟩=>by rw [e]; (simp only [Sl.ones,C6J,F8.one hS2,Bool.and_true,Bool.true_and]) <;> rfl
def B2J (h:PH) (w:Value) (f:E8→Option Bool):Prop:=(w.oneCell'=true∧w.cells=[w].toArray)∧((∀ (x0:E8),f x0=none)∨∃ fid us vs,w=.func (.func fid) us.toArray vs.toArray∧∀ h',Le h h'→∀ {pc0:List Value} {x0:E8} (pr0:I8 h' pc0 x0) {r_0:Bool} (H:f x0=some r_0) (L:List D9),J6 prog fid (us ++ [.agg pc0.toArray] ++ vs) h' L (fun v h' L'=>v=.bool r_0∧L'=L))
theorem B2J.mono {h g:PH} {w:Value} {f:E8→Option Bool} (c:B2J h w f) (l:Le h g):B2J g w f:=⟨c.1,c.2.imp id fun ⟨fid,us,vs,e,k⟩=>⟨fid,us,vs,e,fun h' l'=>k h' (l.trans l')⟩⟩
theorem B2J.u {h g:PH} {w:Value} {f:E8→Option Bool} [l:LeI h g] (c:B2J h w f):B2J g w f:=c.mono l.le
theorem B2J.call {h:PH} {w:Value} {f:E8→Option Bool} (c:B2J h w f) {pc0:List Value} {x0:E8} (pr0:I8 h pc0 x0) {r_0:Bool} (H:f x0=some r_0):∃ fid us vs,w=.func (.func fid) us.toArray vs.toArray∧∀ L:List D9,J6 prog fid (us ++ [.agg pc0.toArray] ++ vs) h L (fun v h' L'=>v=.bool r_0∧L'=L):=by
 rcases c.2 with n | ⟨fid,us,vs,e,k⟩
 ·rw [n] at H; cases H
 ·exact ⟨fid,us,vs,e,k h (Le.refl h) pr0 H⟩
def C6O:Vr (E8→Option Bool):=fun h cs f=>∃ w,cs=[w]∧B2J h w f
theorem C6O.mono:A1g C6O:=fun _ _ _ _ l ⟨w,e,c⟩=>⟨w,e,c.mono l⟩
instance:MonoC C6O:=⟨C6O.mono⟩
def B0p (h:PH) (w:Value) (f:ByteArray→Option Bool):Prop:=(w.oneCell'=true∧w.cells=[w].toArray)∧((∀ (x0:ByteArray),f x0=none)∨∃ fid us vs,w=.func (.func fid) us.toArray vs.toArray∧∀ h',Le h h'→∀ {x0:ByteArray} {r_0:Bool} (H:f x0=some r_0) (L:List D9),J6 prog fid (us ++ [.string x0] ++ vs) h' L (fun v h' L'=>v=.bool r_0∧L'=L))
theorem B0p.mono {h g:PH} {w:Value} {f:ByteArray→Option Bool} (c:B0p h w f) (l:Le h g):B0p g w f:=⟨c.1,c.2.imp id fun ⟨fid,us,vs,e,k⟩=>⟨fid,us,vs,e,fun h' l'=>k h' (l.trans l')⟩⟩
theorem B0p.u {h g:PH} {w:Value} {f:ByteArray→Option Bool} [l:LeI h g] (c:B0p h w f):B0p g w f:=c.mono l.le
theorem B0p.call {h:PH} {w:Value} {f:ByteArray→Option Bool} (c:B0p h w f) {x0:ByteArray} {r_0:Bool} (H:f x0=some r_0):∃ fid us vs,w=.func (.func fid) us.toArray vs.toArray∧∀ L:List D9,J6 prog fid (us ++ [.string x0] ++ vs) h L (fun v h' L'=>v=.bool r_0∧L'=L):=by
 rcases c.2 with n | ⟨fid,us,vs,e,k⟩
 ·rw [n] at H; cases H
 ·exact ⟨fid,us,vs,e,k h (Le.refl h) H⟩
def C6K:Vr (ByteArray→Option Bool):=fun h cs f=>∃ w,cs=[w]∧B0p h w f
theorem C6K.mono:A1g C6K:=fun _ _ _ _ l ⟨w,e,c⟩=>⟨w,e,c.mono l⟩
instance:MonoC C6K:=⟨C6K.mono⟩
def L8:Vr H7:=fun h cs x=>cs=[.string x.fA,.string x.fB,.int .u8 x.H6]
theorem L8.mono:A1g L8:=fun h g cs x l e=>e
instance:MonoC L8:=⟨L8.mono⟩
theorem L8.plain:Plain L8:=fun h cs x e=>by rw [show cs=_ from e]; rfl
def H9:Vr F3:=fun h cs x=>cs=[.int .u8 x.H6,.int .i64 x.J3,.string x.fA,.string x.fB,.string x.J2,.int .i64 x.fN]
theorem H9.mono:A1g H9:=fun h g cs x l e=>e
instance:MonoC H9:=⟨H9.mono⟩
theorem H9.plain:Plain H9:=fun h cs x e=>by rw [show cs=_ from e]; rfl
def B0l (h:PH) (w:Value) (f:Int→Int→Option Int):Prop:=(w.oneCell'=true∧w.cells=[w].toArray)∧((∀ (x0:Int) (x1:Int),f x0 x1=none)∨∃ fid us vs,w=.func (.func fid) us.toArray vs.toArray∧∀ h',Le h h'→∀ {x0:Int} {x1:Int} {r_0:Int} (H:f x0 x1=some r_0) (L:List D9),J6 prog fid (us ++ [.int .i64 x0,.int .i64 x1] ++ vs) h' L (fun v h' L'=>v=.int .i64 r_0∧L'=L))
theorem B0l.mono {h g:PH} {w:Value} {f:Int→Int→Option Int} (c:B0l h w f) (l:Le h g):B0l g w f:=⟨c.1,c.2.imp id fun ⟨fid,us,vs,e,k⟩=>⟨fid,us,vs,e,fun h' l'=>k h' (l.trans l')⟩⟩
theorem B0l.u {h g:PH} {w:Value} {f:Int→Int→Option Int} [l:LeI h g] (c:B0l h w f):B0l g w f:=c.mono l.le
theorem B0l.call {h:PH} {w:Value} {f:Int→Int→Option Int} (c:B0l h w f) {x0:Int} {x1:Int} {r_0:Int} (H:f x0 x1=some r_0):∃ fid us vs,w=.func (.func fid) us.toArray vs.toArray∧∀ L:List D9,J6 prog fid (us ++ [.int .i64 x0,.int .i64 x1] ++ vs) h L (fun v h' L'=>v=.int .i64 r_0∧L'=L):=by
 rcases c.2 with n | ⟨fid,us,vs,e,k⟩
 ·rw [n] at H; cases H
 ·exact ⟨fid,us,vs,e,k h (Le.refl h) H⟩
def D0v:Vr (Int→Int→Option Int):=fun h cs f=>∃ w,cs=[w]∧B0l h w f
theorem D0v.mono:A1g D0v:=fun _ _ _ _ l ⟨w,e,c⟩=>⟨w,e,c.mono l⟩
instance:MonoC D0v:=⟨D0v.mono⟩
def B0B (h:PH) (w:Value) (f:(List Int)→(List Int)→Option Int):Prop:=(w.oneCell'=true∧w.cells=[w].toArray)∧((∀ (x0:List Int) (x1:List Int),f x0 x1=none)∨∃ fid us vs,w=.func (.func fid) us.toArray vs.toArray∧∀ h',Le h h'→∀ {pv0:Value} {x0:List Int} (pr0:F8 (VI .i64) 1 h' pv0 x0) {pv1:Value} {x1:List Int} (pr1:F8 (VI .i64) 1 h' pv1 x1) {r_0:Int} (H:f x0 x1=some r_0) (L:List D9),J6 prog fid (us ++ [pv0,pv1] ++ vs) h' L (fun v h' L'=>v=.int .i64 r_0∧L'=L))
theorem B0B.mono {h g:PH} {w:Value} {f:(List Int)→(List Int)→Option Int} (c:B0B h w f) (l:Le h g):B0B g w f:=⟨c.1,c.2.imp id fun ⟨fid,us,vs,e,k⟩=>⟨fid,us,vs,e,fun h' l'=>k h' (l.trans l')⟩⟩
theorem B0B.u {h g:PH} {w:Value} {f:(List Int)→(List Int)→Option Int} [l:LeI h g] (c:B0B h w f):B0B g w f:=c.mono l.le
theorem B0B.call {h:PH} {w:Value} {f:(List Int)→(List Int)→Option Int} (c:B0B h w f) {pv0:Value} {x0:List Int} (pr0:F8 (VI .i64) 1 h pv0 x0) {pv1:Value} {x1:List Int} (pr1:F8 (VI .i64) 1 h pv1 x1) {r_0:Int} (H:f x0 x1=some r_0):∃ fid us vs,w=.func (.func fid) us.toArray vs.toArray∧∀ L:List D9,J6 prog fid (us ++ [pv0,pv1] ++ vs) h L (fun v h' L'=>v=.int .i64 r_0∧L'=L):=by
 rcases c.2 with n | ⟨fid,us,vs,e,k⟩
 ·rw [n] at H; cases H
 ·exact ⟨fid,us,vs,e,k h (Le.refl h) pr0 pr1 H⟩
def C6x:Vr ((List Int)→(List Int)→Option Int):=fun h cs f=>∃ w,cs=[w]∧B0B h w f
theorem C6x.mono:A1g C6x:=fun _ _ _ _ l ⟨w,e,c⟩=>⟨w,e,c.mono l⟩
instance:MonoC C6x:=⟨C6x.mono⟩
def L9:Vr I1:=fun h cs x=>cs=[.int .i64 x.A1T,.int .i64 x.Y8,.int .i64 x.A2G]
theorem L9.mono:A1g L9:=fun h g cs x l e=>e
instance:MonoC L9:=⟨L9.mono⟩
theorem L9.plain:Plain L9:=fun h cs x e=>by rw [show cs=_ from e]; rfl
def B0E (h:PH) (w:Value) (f:I1→I1→Option Int):Prop:=(w.oneCell'=true∧w.cells=[w].toArray)∧((∀ (x0:I1) (x1:I1),f x0 x1=none)∨∃ fid us vs,w=.func (.func fid) us.toArray vs.toArray∧∀ h',Le h h'→∀ {pc0:List Value} {x0:I1} (pr0:L9 h' pc0 x0) {pc1:List Value} {x1:I1} (pr1:L9 h' pc1 x1) {r_0:Int} (H:f x0 x1=some r_0) (L:List D9),J6 prog fid (us ++ [.agg pc0.toArray,.agg pc1.toArray] ++ vs) h' L (fun v h' L'=>v=.int .i64 r_0∧L'=L))
theorem B0E.mono {h g:PH} {w:Value} {f:I1→I1→Option Int} (c:B0E h w f) (l:Le h g):B0E g w f:=⟨c.1,c.2.imp id fun ⟨fid,us,vs,e,k⟩=>⟨fid,us,vs,e,fun h' l'=>k h' (l.trans l')⟩⟩
theorem B0E.u {h g:PH} {w:Value} {f:I1→I1→Option Int} [l:LeI h g] (c:B0E h w f):B0E g w f:=c.mono l.le
theorem B0E.call {h:PH} {w:Value} {f:I1→I1→Option Int} (c:B0E h w f) {pc0:List Value} {x0:I1} (pr0:L9 h pc0 x0) {pc1:List Value} {x1:I1} (pr1:L9 h pc1 x1) {r_0:Int} (H:f x0 x1=some r_0):∃ fid us vs,w=.func (.func fid) us.toArray vs.toArray∧∀ L:List D9,J6 prog fid (us ++ [.agg pc0.toArray,.agg pc1.toArray] ++ vs) h L (fun v h' L'=>v=.int .i64 r_0∧L'=L):=by
 rcases c.2 with n | ⟨fid,us,vs,e,k⟩
 ·rw [n] at H; cases H
 ·exact ⟨fid,us,vs,e,k h (Le.refl h) pr0 pr1 H⟩
def C6D:Vr (I1→I1→Option Int):=fun h cs f=>∃ w,cs=[w]∧B0E h w f
theorem C6D.mono:A1g C6D:=fun _ _ _ _ l ⟨w,e,c⟩=>⟨w,e,c.mono l⟩
instance:MonoC C6D:=⟨C6D.mono⟩
def B7s (h:PH) (w:Value) (f:(List Int)→(List Int)→Option Bool):Prop:=(w.oneCell'=true∧w.cells=[w].toArray)∧((∀ (x0:List Int) (x1:List Int),f x0 x1=none)∨∃ fid us vs,w=.func (.func fid) us.toArray vs.toArray∧∀ h',Le h h'→∀ {pv0:Value} {x0:List Int} (pr0:F8 (VI .i64) 1 h' pv0 x0) {pv1:Value} {x1:List Int} (pr1:F8 (VI .i64) 1 h' pv1 x1) {r_0:Bool} (H:f x0 x1=some r_0) (L:List D9),J6 prog fid (us ++ [pv0,pv1] ++ vs) h' L (fun v h' L'=>v=.bool r_0∧L'=L))
theorem B7s.mono {h g:PH} {w:Value} {f:(List Int)→(List Int)→Option Bool} (c:B7s h w f) (l:Le h g):B7s g w f:=⟨c.1,c.2.imp id fun ⟨fid,us,vs,e,k⟩=>⟨fid,us,vs,e,fun h' l'=>k h' (l.trans l')⟩⟩
theorem B7s.u {h g:PH} {w:Value} {f:(List Int)→(List Int)→Option Bool} [l:LeI h g] (c:B7s h w f):B7s g w f:=c.mono l.le
theorem B7s.call {h:PH} {w:Value} {f:(List Int)→(List Int)→Option Bool} (c:B7s h w f) {pv0:Value} {x0:List Int} (pr0:F8 (VI .i64) 1 h pv0 x0) {pv1:Value} {x1:List Int} (pr1:F8 (VI .i64) 1 h pv1 x1) {r_0:Bool} (H:f x0 x1=some r_0):∃ fid us vs,w=.func (.func fid) us.toArray vs.toArray∧∀ L:List D9,J6 prog fid (us ++ [pv0,pv1] ++ vs) h L (fun v h' L'=>v=.bool r_0∧L'=L):=by
 rcases c.2 with n | ⟨fid,us,vs,e,k⟩
 ·rw [n] at H; cases H
 ·exact ⟨fid,us,vs,e,k h (Le.refl h) pr0 pr1 H⟩
def D0y:Vr ((List Int)→(List Int)→Option Bool):=fun h cs f=>∃ w,cs=[w]∧B7s h w f
theorem D0y.mono:A1g D0y:=fun _ _ _ _ l ⟨w,e,c⟩=>⟨w,e,c.mono l⟩
instance:MonoC D0y:=⟨D0y.mono⟩
def B1s:Vr Q7:=fun h cs x=>∃ v1 v3,cs=[v1,v3]∧F8 I8 9 h v1 x.A8∧F8 L8 3 h v3 x.M9
theorem B1s.mono:A1g B1s:=fun h g cs x l ⟨v1,v3,e,hS2,hS4⟩=>⟨v1,v3,e,F8.mono I8.mono hS2 l,F8.mono L8.mono hS4 l⟩
instance:MonoC B1s:=⟨B1s.mono⟩
def C4G:Vr Q7:=fun h cs x=>∃ v1 v3,cs=[v1,v3]∧F8 I8 9 h v1 x.A8
def C3w:Vr D5:=fun h cs x=>∃ v1,cs=[.string x.F7,.int .u8 x.Q4,.int .i64 x.fA,.int .i64 x.fB,v1,.int .i64 x.fX,.int .i64 x.fY]
def O8:Vr C9:=fun h cs x=>∃ v1 v3 v5 v7 v9,cs=[v1,v3,v5,v7,v9]∧F8 I6 7 h v1 x.C8∧F8 I8 9 h v3 x.A8∧F8 L8 3 h v5 x.M9∧F8 (VI .i64) 1 h v7 x.R8∧F8 H9 6 h v9 x.F9
theorem O8.mono:A1g O8:=fun h g cs x l ⟨v1,v3,v5,v7,v9,e,hS2,hS4,hS6,hS8,hS10⟩=>⟨v1,v3,v5,v7,v9,e,F8.mono I6.mono hS2 l,F8.mono I8.mono hS4 l,F8.mono L8.mono hS6 l,F8.mono VI.mono hS8 l,F8.mono H9.mono hS10 l⟩
instance:MonoC O8:=⟨O8.mono⟩
def B9p:Vr C9:=fun h cs x=>∃ v1 v3 v5 v7 v9,cs=[v1,v3,v5,v7,v9]∧F8 I6 7 h v1 x.C8∧F8 I8 9 h v3 x.A8∧F8 L8 3 h v5 x.M9∧F8 (VI .i64) 1 h v7 x.R8
def A0b:Vr R7:=fun h cs x=>∃ v1 v3 v5 v7,cs=[v1,v3,v5,v7]∧F8 (VI .u8) 1 h v1 x.C8∧F8 (VI .u16) 1 h v3 x.A8∧F8 (VI .u8) 1 h v5 x.M9∧F8 (VI .u32) 1 h v7 x.F9
theorem A0b.mono:A1g A0b:=fun h g cs x l ⟨v1,v3,v5,v7,e,hS2,hS4,hS6,hS8⟩=>⟨v1,v3,v5,v7,e,F8.mono VI.mono hS2 l,F8.mono VI.mono hS4 l,F8.mono VI.mono hS6 l,F8.mono VI.mono hS8 l⟩
instance:MonoC A0b:=⟨A0b.mono⟩
def A8M (h:PH) (w:Value) (f:Int→Option Int):Prop:=(w.oneCell'=true∧w.cells=[w].toArray)∧((∀ (x0:Int),f x0=none)∨∃ fid us vs,w=.func (.func fid) us.toArray vs.toArray∧∀ h',Le h h'→∀ {x0:Int} {r_0:Int} (H:f x0=some r_0) (L:List D9),J6 prog fid (us ++ [.int .i64 x0] ++ vs) h' L (fun v h' L'=>v=.int .i64 r_0∧L'=L))
theorem A8M.mono {h g:PH} {w:Value} {f:Int→Option Int} (c:A8M h w f) (l:Le h g):A8M g w f:=⟨c.1,c.2.imp id fun ⟨fid,us,vs,e,k⟩=>⟨fid,us,vs,e,fun h' l'=>k h' (l.trans l')⟩⟩
theorem A8M.u {h g:PH} {w:Value} {f:Int→Option Int} [l:LeI h g] (c:A8M h w f):A8M g w f:=c.mono l.le
theorem A8M.call {h:PH} {w:Value} {f:Int→Option Int} (c:A8M h w f) {x0:Int} {r_0:Int} (H:f x0=some r_0):∃ fid us vs,w=.func (.func fid) us.toArray vs.toArray∧∀ L:List D9,J6 prog fid (us ++ [.int .i64 x0] ++ vs) h L (fun v h' L'=>v=.int .i64 r_0∧L'=L):=by
 rcases c.2 with n | ⟨fid,us,vs,e,k⟩
 ·rw [n] at H; cases H
 ·exact ⟨fid,us,vs,e,k h (Le.refl h) H⟩
def A3o:Vr (Int→Option Int):=fun h cs f=>∃ w,cs=[w]∧A8M h w f
theorem A3o.mono:A1g A3o:=fun _ _ _ _ l ⟨w,e,c⟩=>⟨w,e,c.mono l⟩
instance:MonoC A3o:=⟨A3o.mono⟩
theorem A3o.plain:Plain A3o:=fun _ _ _ ⟨w,e,c⟩=>by rw [e]; simp only [Sl.ones,c.1.1]; rfl
def A8x (h:PH) (w:Value) (f:Int→Int→Int→Int→Option Bool):Prop:=(w.oneCell'=true∧w.cells=[w].toArray)∧((∀ (x0:Int) (x1:Int) (x2:Int) (x3:Int),f x0 x1 x2 x3=none)∨∃ fid us vs,w=.func (.func fid) us.toArray vs.toArray∧∀ h',Le h h'→∀ {x0:Int} {x1:Int} {x2:Int} {x3:Int} {r_0:Bool} (H:f x0 x1 x2 x3=some r_0) (L:List D9),J6 prog fid (us ++ [.int .i64 x0,.int .i64 x1,.int .i64 x2,.int .i64 x3] ++ vs) h' L (fun v h' L'=>v=.bool r_0∧L'=L))
theorem A8x.mono {h g:PH} {w:Value} {f:Int→Int→Int→Int→Option Bool} (c:A8x h w f) (l:Le h g):A8x g w f:=⟨c.1,c.2.imp id fun ⟨fid,us,vs,e,k⟩=>⟨fid,us,vs,e,fun h' l'=>k h' (l.trans l')⟩⟩
theorem A8x.u {h g:PH} {w:Value} {f:Int→Int→Int→Int→Option Bool} [l:LeI h g] (c:A8x h w f):A8x g w f:=c.mono l.le
theorem A8x.call {h:PH} {w:Value} {f:Int→Int→Int→Int→Option Bool} (c:A8x h w f) {x0:Int} {x1:Int} {x2:Int} {x3:Int} {r_0:Bool} (H:f x0 x1 x2 x3=some r_0):∃ fid us vs,w=.func (.func fid) us.toArray vs.toArray∧∀ L:List D9,J6 prog fid (us ++ [.int .i64 x0,.int .i64 x1,.int .i64 x2,.int .i64 x3] ++ vs) h L (fun v h' L'=>v=.bool r_0∧L'=L):=by
 rcases c.2 with n | ⟨fid,us,vs,e,k⟩
 ·rw [n] at H; cases H
 ·exact ⟨fid,us,vs,e,k h (Le.refl h) H⟩
def C6F:Vr (Int→Int→Int→Int→Option Bool):=fun h cs f=>∃ w,cs=[w]∧A8x h w f
theorem C6F.mono:A1g C6F:=fun _ _ _ _ l ⟨w,e,c⟩=>⟨w,e,c.mono l⟩
instance:MonoC C6F:=⟨C6F.mono⟩
def B1B (h:PH) (w:Value) (f:Int→Int→Option (List (Int→Option Int))):Prop:=(w.oneCell'=true∧w.cells=[w].toArray)∧((∀ (x0:Int) (x1:Int),f x0 x1=none)∨∃ fid us vs,w=.func (.func fid) us.toArray vs.toArray∧∀ h',Le h h'→∀ {x0:Int} {x1:Int} {r_0:List (Int→Option Int)} (H:f x0 x1=some r_0) (L:List D9),J6 prog fid (us ++ [.int .i64 x0,.int .i64 x1] ++ vs) h' L (fun v h' L'=>L'=L∧F8 A3o 1 h' v r_0))
theorem B1B.mono {h g:PH} {w:Value} {f:Int→Int→Option (List (Int→Option Int))} (c:B1B h w f) (l:Le h g):B1B g w f:=⟨c.1,c.2.imp id fun ⟨fid,us,vs,e,k⟩=>⟨fid,us,vs,e,fun h' l'=>k h' (l.trans l')⟩⟩
theorem B1B.u {h g:PH} {w:Value} {f:Int→Int→Option (List (Int→Option Int))} [l:LeI h g] (c:B1B h w f):B1B g w f:=c.mono l.le
theorem B1B.call {h:PH} {w:Value} {f:Int→Int→Option (List (Int→Option Int))} (c:B1B h w f) {x0:Int} {x1:Int} {r_0:List (Int→Option Int)} (H:f x0 x1=some r_0):∃ fid us vs,w=.func (.func fid) us.toArray vs.toArray∧∀ L:List D9,J6 prog fid (us ++ [.int .i64 x0,.int .i64 x1] ++ vs) h L (fun v h' L'=>L'=L∧F8 A3o 1 h' v r_0):=by
 rcases c.2 with n | ⟨fid,us,vs,e,k⟩
 ·rw [n] at H; cases H
 ·exact ⟨fid,us,vs,e,k h (Le.refl h) H⟩
def C6u:Vr (Int→Int→Option (List (Int→Option Int))):=fun h cs f=>∃ w,cs=[w]∧B1B h w f
theorem C6u.mono:A1g C6u:=fun _ _ _ _ l ⟨w,e,c⟩=>⟨w,e,c.mono l⟩
instance:MonoC C6u:=⟨C6u.mono⟩
def B0L:Vr A1n:=fun h cs x=>∃ v1 v3 v5 v7 v9,cs=[.string x.A7b,v1,v3,v5,v7,v9]∧B0l h v1 x.C5v∧A8x h v3 x.Y5∧A8x h v5 x.A0D∧B0l h v7 x.B9f∧B1B h v9 x.C3k
theorem B0L.mono:A1g B0L:=fun h g cs x l ⟨v1,v3,v5,v7,v9,e,hF2,hF4,hF6,hF8,hF10⟩=>⟨v1,v3,v5,v7,v9,e,B0l.mono hF2 l,A8x.mono hF4 l,A8x.mono hF6 l,B0l.mono hF8 l,B1B.mono hF10 l⟩
instance:MonoC B0L:=⟨B0L.mono⟩
def A7E:Vr U0:=fun h cs x=>∃ v1 v3,cs=[v1,v3]∧F8 I8 9 h v1 x.V6∧F8 L8 3 h v3 x.A0E
theorem A7E.mono:A1g A7E:=fun h g cs x l ⟨v1,v3,e,hS2,hS4⟩=>⟨v1,v3,e,F8.mono I8.mono hS2 l,F8.mono L8.mono hS4 l⟩
instance:MonoC A7E:=⟨A7E.mono⟩
def A1l:Vr L6:=fun h cs x=>∃ v1 v3 v5,cs=[v1,v3,v5]∧F8 I8 9 h v1 x.K6.V6∧F8 L8 3 h v3 x.K6.A0E∧Mp Value.string false (VI .i64) h v5 x.fat
theorem A1l.mono:A1g A1l:=fun h g cs x l ⟨v1,v3,v5,e,hS2,hS4,hM6⟩=>⟨v1,v3,v5,e,F8.mono I8.mono hS2 l,F8.mono L8.mono hS4 l,Mp.mono VI.mono hM6 l⟩
instance:MonoC A1l:=⟨A1l.mono⟩
def B1w (h:PH) (w:Value) (f:H7→H7→Option Int):Prop:=(w.oneCell'=true∧w.cells=[w].toArray)∧((∀ (x0:H7) (x1:H7),f x0 x1=none)∨∃ fid us vs,w=.func (.func fid) us.toArray vs.toArray∧∀ h',Le h h'→∀ {pc0:List Value} {x0:H7} (pr0:L8 h' pc0 x0) {pc1:List Value} {x1:H7} (pr1:L8 h' pc1 x1) {r_0:Int} (H:f x0 x1=some r_0) (L:List D9),J6 prog fid (us ++ [.agg pc0.toArray,.agg pc1.toArray] ++ vs) h' L (fun v h' L'=>v=.int .i64 r_0∧L'=L))
theorem B1w.mono {h g:PH} {w:Value} {f:H7→H7→Option Int} (c:B1w h w f) (l:Le h g):B1w g w f:=⟨c.1,c.2.imp id fun ⟨fid,us,vs,e,k⟩=>⟨fid,us,vs,e,fun h' l'=>k h' (l.trans l')⟩⟩
theorem B1w.u {h g:PH} {w:Value} {f:H7→H7→Option Int} [l:LeI h g] (c:B1w h w f):B1w g w f:=c.mono l.le
theorem B1w.call {h:PH} {w:Value} {f:H7→H7→Option Int} (c:B1w h w f) {pc0:List Value} {x0:H7} (pr0:L8 h pc0 x0) {pc1:List Value} {x1:H7} (pr1:L8 h pc1 x1) {r_0:Int} (H:f x0 x1=some r_0):∃ fid us vs,w=.func (.func fid) us.toArray vs.toArray∧∀ L:List D9,J6 prog fid (us ++ [.agg pc0.toArray,.agg pc1.toArray] ++ vs) h L (fun v h' L'=>v=.int .i64 r_0∧L'=L):=by
 rcases c.2 with n | ⟨fid,us,vs,e,k⟩
 ·rw [n] at H; cases H
 ·exact ⟨fid,us,vs,e,k h (Le.refl h) pr0 pr1 H⟩
def C6H:Vr (H7→H7→Option Int):=fun h cs f=>∃ w,cs=[w]∧B1w h w f
theorem C6H.mono:A1g C6H:=fun _ _ _ _ l ⟨w,e,c⟩=>⟨w,e,c.mono l⟩
instance:MonoC C6H:=⟨C6H.mono⟩
def K7:Vr G7:=fun h cs x=>cs=[.string x.A7b,.int .u8 x.fa,.bool x.fb,.int .u8 x.ft,.bool x.fn,.int .i64 x.flo,.bool x.A6j,(fnV x.C4y)]
theorem K7.mono:A1g K7:=fun h g cs x l e=>e
instance:MonoC K7:=⟨K7.mono⟩
def Z7:Vr P9:=fun h cs x=>∃ v1 v3 v5 v7 v9 v11 v13 v15 v17 v19 v21 v23 v25 v27,cs=[v1,v3,v5,v7,v9,v11,v13,v15,v17,v19,v21,v23,v25,v27]∧F8 I6 7 h v1 x.P6.C8∧F8 I8 9 h v3 x.P6.A8∧F8 L8 3 h v5 x.P6.M9∧F8 (VI .i64) 1 h v7 x.P6.R8∧F8 H9 6 h v9 x.P6.F9∧Mp (Value.int .u8) true K7 h v11 x.B7L∧F8 (VI .i64) 1 h v13 x.A0d∧F8 (VI .i64) 1 h v15 x.B6f∧F8 VB 1 h v17 x.C2v∧F8 (VSl (VI .i64) 1) 1 h v19 x.Y5∧F8 (VSl (VI .i64) 1) 1 h v21 x.A0D∧F8 (VMp (Value.int .i64) false (VI .i64)) 1 h v23 x.A2E∧F8 (VSl VB 1) 1 h v25 x.B0q∧F8 (VSl (VI .u8) 1) 1 h v27 x.A0E
theorem Z7.mono:A1g Z7:=fun h g cs x l ⟨v1,v3,v5,v7,v9,v11,v13,v15,v17,v19,v21,v23,v25,v27,e,hS2,hS4,hS6,hS8,hS10,hM12,hS14,hS16,hS18,hS20,hS22,hS24,hS26,hS28⟩=>⟨v1,v3,v5,v7,v9,v11,v13,v15,v17,v19,v21,v23,v25,v27,e,F8.mono I6.mono hS2 l,F8.mono I8.mono hS4 l,F8.mono L8.mono hS6 l,F8.mono VI.mono hS8 l,F8.mono H9.mono hS10 l,Mp.mono K7.mono hM12 l,F8.mono VI.mono hS14 l,F8.mono VI.mono hS16 l,F8.mono VB.mono hS18 l,F8.mono (VSl.mono VI.mono) hS20 l,F8.mono (VSl.mono VI.mono) hS22 l,F8.mono (VMp.mono VI.mono) hS24 l,F8.mono (VSl.mono VB.mono) hS26 l,F8.mono (VSl.mono VI.mono) hS28 l⟩
instance:MonoC Z7:=⟨Z7.mono⟩
def M4:Vr F6:=fun h cs x=>∃ v1 v3 v5,cs=[v1,v3,v5]∧Pt Z7 h v1 x.G5∧F8 (VI .i64) 1 h v3 x.R5∧F8 (VI .i64) 1 h v5 x.B7H
theorem M4.mono:A1g M4:=fun h g cs x l ⟨v1,v3,v5,e,hP2,hS4,hS6⟩=>⟨v1,v3,v5,e,Pt.mono Z7.mono hP2 l,F8.mono VI.mono hS4 l,F8.mono VI.mono hS6 l⟩
instance:MonoC M4:=⟨M4.mono⟩
def X4 {σ:Type} (R:σ→PH→List D9→Prop) (h:PH) (w:Value) (f:σ→Int→(List Int)→Option σ):Prop:=(w.oneCell'=true∧w.cells=[w].toArray)∧(∀ s h h' La,Le h h'→R s h La→R s h' La)∧∀ h',Le h h'→∀ {x0:Int} {pv1:Value} {x1:List Int} (pr1:F8 (VI .i64) 1 h' pv1 x1) {s s':σ} {La:List D9}  (hR:R s h' La) (H:f s x0 x1=some s') (As L:List D9),Yld prog w [.int .i64 x0,pv1] h' (As ++ (La ++ L)) (fun v h2 L'=>∃ La',v=.tuple #[]∧L'=As ++ (La' ++ L)∧R s' h2 La')
theorem X4.mono {σ:Type} {R:σ→PH→List D9→Prop} {h g:PH} {w:Value} {f:σ→Int→(List Int)→Option σ} (c:X4 R h w f) (l:Le h g):X4 R g w f:=⟨c.1,c.2.1,fun h' l'=>c.2.2 h' (l.trans l')⟩
theorem X4.u {σ:Type} {R:σ→PH→List D9→Prop} {h g:PH} {w:Value} {f:σ→Int→(List Int)→Option σ} [l:LeI h g] (c:X4 R h w f):X4 R g w f:=c.mono l.le
theorem X4.call {σ:Type} {R:σ→PH→List D9→Prop} {h:PH} {w:Value} {f:σ→Int→(List Int)→Option σ} (c:X4 R h w f):∀ {x0:Int} {pv1:Value} {x1:List Int} (pr1:F8 (VI .i64) 1 h pv1 x1) {s s':σ} {La:List D9}  (hR:R s h La) (H:f s x0 x1=some s') (As L:List D9),Yld prog w [.int .i64 x0,pv1] h (As ++ (La ++ L)) (fun v h2 L'=>∃ La',v=.tuple #[]∧L'=As ++ (La' ++ L)∧R s' h2 La'):=fun pr1=>fun hR H As L=>c.2.2 h (Le.refl h) pr1 hR H As L
def B0e (h:PH) (w:Value) (f:Int→Int→Option Bool):Prop:=(w.oneCell'=true∧w.cells=[w].toArray)∧((∀ (x0:Int) (x1:Int),f x0 x1=none)∨∃ fid us vs,w=.func (.func fid) us.toArray vs.toArray∧∀ h',Le h h'→∀ {x0:Int} {x1:Int} {r_0:Bool} (H:f x0 x1=some r_0) (L:List D9),J6 prog fid (us ++ [.int .i64 x0,.int .i64 x1] ++ vs) h' L (fun v h' L'=>v=.bool r_0∧L'=L))
theorem B0e.mono {h g:PH} {w:Value} {f:Int→Int→Option Bool} (c:B0e h w f) (l:Le h g):B0e g w f:=⟨c.1,c.2.imp id fun ⟨fid,us,vs,e,k⟩=>⟨fid,us,vs,e,fun h' l'=>k h' (l.trans l')⟩⟩
theorem B0e.u {h g:PH} {w:Value} {f:Int→Int→Option Bool} [l:LeI h g] (c:B0e h w f):B0e g w f:=c.mono l.le
theorem B0e.call {h:PH} {w:Value} {f:Int→Int→Option Bool} (c:B0e h w f) {x0:Int} {x1:Int} {r_0:Bool} (H:f x0 x1=some r_0):∃ fid us vs,w=.func (.func fid) us.toArray vs.toArray∧∀ L:List D9,J6 prog fid (us ++ [.int .i64 x0,.int .i64 x1] ++ vs) h L (fun v h' L'=>v=.bool r_0∧L'=L):=by
 rcases c.2 with n | ⟨fid,us,vs,e,k⟩
 ·rw [n] at H; cases H
 ·exact ⟨fid,us,vs,e,k h (Le.refl h) H⟩
def C6y:Vr (Int→Int→Option Bool):=fun h cs f=>∃ w,cs=[w]∧B0e h w f
theorem C6y.mono:A1g C6y:=fun _ _ _ _ l ⟨w,e,c⟩=>⟨w,e,c.mono l⟩
instance:MonoC C6y:=⟨C6y.mono⟩
def B1u {σ:Type} (R:σ→PH→List D9→Prop) (h:PH) (w:Value) (f:σ→(List Int)→Option σ):Prop:=(w.oneCell'=true∧w.cells=[w].toArray)∧(∀ s h h' La,Le h h'→R s h La→R s h' La)∧∀ h',Le h h'→∀ {pv0:Value} {x0:List Int} (pr0:F8 (VI .i64) 1 h' pv0 x0) {s s':σ} {La:List D9}  (hR:R s h' La) (H:f s x0=some s') (As L:List D9),Yld prog w [pv0] h' (As ++ (La ++ L)) (fun v h2 L'=>∃ La',v=.tuple #[]∧L'=As ++ (La' ++ L)∧R s' h2 La')
theorem B1u.mono {σ:Type} {R:σ→PH→List D9→Prop} {h g:PH} {w:Value} {f:σ→(List Int)→Option σ} (c:B1u R h w f) (l:Le h g):B1u R g w f:=⟨c.1,c.2.1,fun h' l'=>c.2.2 h' (l.trans l')⟩
theorem B1u.u {σ:Type} {R:σ→PH→List D9→Prop} {h g:PH} {w:Value} {f:σ→(List Int)→Option σ} [l:LeI h g] (c:B1u R h w f):B1u R g w f:=c.mono l.le
theorem B1u.call {σ:Type} {R:σ→PH→List D9→Prop} {h:PH} {w:Value} {f:σ→(List Int)→Option σ} (c:B1u R h w f):∀ {pv0:Value} {x0:List Int} (pr0:F8 (VI .i64) 1 h pv0 x0) {s s':σ} {La:List D9}  (hR:R s h La) (H:f s x0=some s') (As L:List D9),Yld prog w [pv0] h (As ++ (La ++ L)) (fun v h2 L'=>∃ La',v=.tuple #[]∧L'=As ++ (La' ++ L)∧R s' h2 La'):=fun pr0=>fun hR H As L=>c.2.2 h (Le.refl h) pr0 hR H As L
def B2B (h:PH) (w:Value) (f:F6→Int→Option Int):Prop:=(w.oneCell'=true∧w.cells=[w].toArray)∧((∀ (x0:F6) (x1:Int),f x0 x1=none)∨∃ fid us vs,w=.func (.func fid) us.toArray vs.toArray∧∀ h',Le h h'→∀ {pv0:Value} {x0:F6} (pr0:Pt M4 h' pv0 x0) {x1:Int} {r_0:Int} (H:f x0 x1=some r_0) (L:List D9),J6 prog fid (us ++ [pv0,.int .i64 x1] ++ vs) h' L (fun v h' L'=>v=.int .i64 r_0∧L'=L))
theorem B2B.mono {h g:PH} {w:Value} {f:F6→Int→Option Int} (c:B2B h w f) (l:Le h g):B2B g w f:=⟨c.1,c.2.imp id fun ⟨fid,us,vs,e,k⟩=>⟨fid,us,vs,e,fun h' l'=>k h' (l.trans l')⟩⟩
theorem B2B.u {h g:PH} {w:Value} {f:F6→Int→Option Int} [l:LeI h g] (c:B2B h w f):B2B g w f:=c.mono l.le
theorem B2B.call {h:PH} {w:Value} {f:F6→Int→Option Int} (c:B2B h w f) {pv0:Value} {x0:F6} (pr0:Pt M4 h pv0 x0) {x1:Int} {r_0:Int} (H:f x0 x1=some r_0):∃ fid us vs,w=.func (.func fid) us.toArray vs.toArray∧∀ L:List D9,J6 prog fid (us ++ [pv0,.int .i64 x1] ++ vs) h L (fun v h' L'=>v=.int .i64 r_0∧L'=L):=by
 rcases c.2 with n | ⟨fid,us,vs,e,k⟩
 ·rw [n] at H; cases H
 ·exact ⟨fid,us,vs,e,k h (Le.refl h) pr0 H⟩
def C6S:Vr (F6→Int→Option Int):=fun h cs f=>∃ w,cs=[w]∧B2B h w f
theorem C6S.mono:A1g C6S:=fun _ _ _ _ l ⟨w,e,c⟩=>⟨w,e,c.mono l⟩
instance:MonoC C6S:=⟨C6S.mono⟩
def B9T {σ:Type} (R:σ→PH→List D9→Prop) (h:PH) (w:Value) (f:σ→(List Int)→Option (σ×Bool)):Prop:=(w.oneCell'=true∧w.cells=[w].toArray)∧(∀ s h h' La,Le h h'→R s h La→R s h' La)∧∀ h',Le h h'→∀ {pv0:Value} {x0:List Int} (pr0:F8 (VI .i64) 1 h' pv0 x0) {s s':σ} {La:List D9} {r_0:Bool} (hR:R s h' La) (H:f s x0=some (s',r_0)) (As L:List D9),Yld prog w [pv0] h' (As ++ (La ++ L)) (fun v h2 L'=>∃ La',v=.bool r_0∧L'=As ++ (La' ++ L)∧R s' h2 La')
theorem B9T.mono {σ:Type} {R:σ→PH→List D9→Prop} {h g:PH} {w:Value} {f:σ→(List Int)→Option (σ×Bool)} (c:B9T R h w f) (l:Le h g):B9T R g w f:=⟨c.1,c.2.1,fun h' l'=>c.2.2 h' (l.trans l')⟩
theorem B9T.u {σ:Type} {R:σ→PH→List D9→Prop} {h g:PH} {w:Value} {f:σ→(List Int)→Option (σ×Bool)} [l:LeI h g] (c:B9T R h w f):B9T R g w f:=c.mono l.le
theorem B9T.call {σ:Type} {R:σ→PH→List D9→Prop} {h:PH} {w:Value} {f:σ→(List Int)→Option (σ×Bool)} (c:B9T R h w f):∀ {pv0:Value} {x0:List Int} (pr0:F8 (VI .i64) 1 h pv0 x0) {s s':σ} {La:List D9} {r_0:Bool} (hR:R s h La) (H:f s x0=some (s',r_0)) (As L:List D9),Yld prog w [pv0] h (As ++ (La ++ L)) (fun v h2 L'=>∃ La',v=.bool r_0∧L'=As ++ (La' ++ L)∧R s' h2 La'):=fun pr0=>fun hR H As L=>c.2.2 h (Le.refl h) pr0 hR H As L
def T9:Vr M0:=fun h cs x=>∃ v1 v3 v5 v7 v9 v11 v13 v15 v17,cs=[v1,v3,v5,v7,v9,v11,v13,v15,v17]∧Pt Z7 h v1 x.G5∧F8 I6 7 h v3 x.fp.C8∧F8 I8 9 h v5 x.fp.A8∧F8 L8 3 h v7 x.fp.M9∧F8 (VI .i64) 1 h v9 x.fp.R8∧F8 H9 6 h v11 x.fp.F9∧F8 (VI .i64) 1 h v13 x.A0d∧F8 (VI .i64) 1 h v15 x.B7I∧F8 (VSl (VSl (VI .i64) 1) 1) 1 h v17 x.A7V
theorem T9.mono:A1g T9:=fun h g cs x l ⟨v1,v3,v5,v7,v9,v11,v13,v15,v17,e,hP2,hS4,hS6,hS8,hS10,hS12,hS14,hS16,hS18⟩=>⟨v1,v3,v5,v7,v9,v11,v13,v15,v17,e,Pt.mono Z7.mono hP2 l,F8.mono I6.mono hS4 l,F8.mono I8.mono hS6 l,F8.mono L8.mono hS8 l,F8.mono VI.mono hS10 l,F8.mono H9.mono hS12 l,F8.mono VI.mono hS14 l,F8.mono VI.mono hS16 l,F8.mono (VSl.mono (VSl.mono VI.mono)) hS18 l⟩
instance:MonoC T9:=⟨T9.mono⟩
def A8L {σ:Type} (R:σ→PH→List D9→Prop) (h:PH) (w:Value) (f:σ→(List Int)→Option (σ×Bool)):Prop:=(w.oneCell'=true∧w.cells=[w].toArray)∧(∀ s h h' La,Le h h'→R s h La→R s h' La)∧∀ h',Le h h'→∀ {pv0:Value} {pcs0:List (List Value)} {x0:List Int} (pr0:A7 (VI .i64) h' pcs0 x0) {s s':σ} {La:List D9} {r_0:Bool} (hR:R s h' La) (H:f s x0=some (s',r_0)) (As L:List D9),Yld prog w [pv0] h' (F5 3 1 pv0 pcs0::(As ++ (La ++ L))) (fun v h2 L'=>∃ La' ls,v=.bool r_0∧L'=F5 3 1 pv0 ls::(As ++ (La' ++ L))∧R s' h2 La'∧A7 (VI .i64) h2 ls x0)
theorem A8L.mono {σ:Type} {R:σ→PH→List D9→Prop} {h g:PH} {w:Value} {f:σ→(List Int)→Option (σ×Bool)} (c:A8L R h w f) (l:Le h g):A8L R g w f:=⟨c.1,c.2.1,fun h' l'=>c.2.2 h' (l.trans l')⟩
theorem A8L.u {σ:Type} {R:σ→PH→List D9→Prop} {h g:PH} {w:Value} {f:σ→(List Int)→Option (σ×Bool)} [l:LeI h g] (c:A8L R h w f):A8L R g w f:=c.mono l.le
theorem A8L.call {σ:Type} {R:σ→PH→List D9→Prop} {h:PH} {w:Value} {f:σ→(List Int)→Option (σ×Bool)} (c:A8L R h w f):∀ {pv0:Value} {pcs0:List (List Value)} {x0:List Int} (pr0:A7 (VI .i64) h pcs0 x0) {s s':σ} {La:List D9} {r_0:Bool} (hR:R s h La) (H:f s x0=some (s',r_0)) (As L:List D9),Yld prog w [pv0] h (F5 3 1 pv0 pcs0::(As ++ (La ++ L))) (fun v h2 L'=>∃ La' ls,v=.bool r_0∧L'=F5 3 1 pv0 ls::(As ++ (La' ++ L))∧R s' h2 La'∧A7 (VI .i64) h2 ls x0):=fun pr0=>fun hR H As L=>c.2.2 h (Le.refl h) pr0 hR H As L
def A3v:Vr N9:=fun h cs x=>cs=[.int .u8 x.H6,.int .i64 x.fN]
theorem A3v.mono:A1g A3v:=fun h g cs x l e=>e
instance:MonoC A3v:=⟨A3v.mono⟩
def A8g:Vr Q8:=fun h cs x=>∃ v1 v3 v5,cs=[v1,.int .i64 x.A7j,v3,.int .i64 x.fat,v5]∧Pt T9 h v1 x.A9E∧F8 A3v 2 h v3 x.A2E∧F8 (VI .i64) 1 h v5 x.R5
theorem A8g.mono:A1g A8g:=fun h g cs x l ⟨v1,v3,v5,e,hP2,hS4,hS6⟩=>⟨v1,v3,v5,e,Pt.mono T9.mono hP2 l,F8.mono A3v.mono hS4 l,F8.mono VI.mono hS6 l⟩
instance:MonoC A8g:=⟨A8g.mono⟩
def A8T:Vr Z5:=fun h cs x=>cs=[.int .i64 x.fat,.int .i64 x.fe]
theorem A8T.mono:A1g A8T:=fun h g cs x l e=>e
instance:MonoC A8T:=⟨A8T.mono⟩
def B2e:Vr A3D:=fun h cs x=>∃ v1,cs=[v1,.int .i64 x.A1T]∧F8 (VI .i64) 1 h v1 x.C8Y
theorem B2e.mono:A1g B2e:=fun h g cs x l ⟨v1,e,hS2⟩=>⟨v1,e,F8.mono VI.mono hS2 l⟩
instance:MonoC B2e:=⟨B2e.mono⟩
end Go.Dm
