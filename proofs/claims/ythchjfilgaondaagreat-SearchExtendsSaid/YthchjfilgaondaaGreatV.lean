import Derived.Test.YthchjfilgaondaaGreatChecked
import Derived.Test.YthchjfilgaondaaGreatDa
import Derived.Test.YthchjfilgaondaaGreatL10
/- How values stand for data. -/
set_option maxRecDepth 1000000
set_option maxHeartbeats 40000000
set_option linter.unusedVariables false
set_option linter.unusedSimpArgs false
set_option linter.unusedSectionVars false
set_option linter.unnecessarySimpa false
open Go Go.Proofs Go.Proofs.Tryz Go.Sl
namespace Go.Dm
def A2E (h:PH) (w:Value) (f:Int→Option Bool):Prop:=(w.oneCell'=true∧w.cells=[w].toArray)∧((∀ (x0:Int),f x0=none)∨∃ fid us vs,w=.func (.func fid) us.toArray vs.toArray∧∀ h',Le h h'→∀ {x0:Int} {r_0:Bool} (H:f x0=some r_0) (L:List E5),J2 prog fid (us++[.int .i64 x0]++vs) h' L (λv h' L'=>v=.bool r_0∧L'=L))
theorem A2E.mono {h g:PH} {w:Value} {f:Int→Option Bool} (c:A2E h w f) (l:Le h g):A2E g w f:=⟨c.1,c.2.imp id λ⟨fid,us,vs,e,k⟩=>⟨fid,us,vs,e,λh' l'=>k h' (l.trans l')⟩⟩
theorem A2E.u {h g:PH} {w:Value} {f:Int→Option Bool} [l:LeI h g] (c:A2E h w f):A2E g w f:=c.mono l.le
theorem A2E.call {h:PH} {w:Value} {f:Int→Option Bool} (c:A2E h w f) {x0:Int} {r_0:Bool} (H:f x0=some r_0):∃ fid us vs,w=.func (.func fid) us.toArray vs.toArray∧∀ L:List E5,J2 prog fid (us++[.int .i64 x0]++vs) h L (λv h' L'=>v=.bool r_0∧L'=L):=by
 rcases c.2 with n | ⟨fid,us,vs,e,k⟩
 ·rw [n] at H; cases H
 ·exact ⟨fid,us,vs,e,k h (Le.refl h) H⟩
def C2R:Vr (Int→Option Bool):=λh cs f=>∃ w,cs=[w]∧A2E h w f
theorem C2R.mono:A1m C2R:=λ_ _ _ _ l ⟨w,e,c⟩=>⟨w,e,c.mono l⟩
instance:MonoC C2R:=⟨C2R.mono⟩
def I6:Vr D5:=λh cs x=>∃ v1,cs=[.string x.F8,.int .u8 x.Q6,.int .i64 x.fA,.int .i64 x.fB,v1,.int .i64 x.fX,.int .i64 x.fY]∧G6 (VI .i64) 1 h v1 x.A2Q
theorem I6.mono:A1m I6:=λh g cs x l ⟨v1,e,hS2⟩=>⟨v1,e,G6.mono VI.mono hS2 l⟩
instance:MonoC I6:=⟨I6.mono⟩
theorem I6.plain:Plain I6:=λh cs x ⟨v1,e,hS2⟩=>by rw [e]; (simp only [Sl.ones,C7F,G6.one hS2,Bool.and_true,Bool.true_and]) <;> rfl
def B1g (h:PH) (w:Value) (f:D5→Option Bool):Prop:=(w.oneCell'=true∧w.cells=[w].toArray)∧((∀ (x0:D5),f x0=none)∨∃ fid us vs,w=.func (.func fid) us.toArray vs.toArray∧∀ h',Le h h'→∀ {pc0:List Value} {x0:D5} (pr0:I6 h' pc0 x0) {r_0:Bool} (H:f x0=some r_0) (L:List E5),J2 prog fid (us++[.agg pc0.toArray]++vs) h' L (λv h' L'=>v=.bool r_0∧L'=L))
theorem B1g.mono {h g:PH} {w:Value} {f:D5→Option Bool} (c:B1g h w f) (l:Le h g):B1g g w f:=⟨c.1,c.2.imp id λ⟨fid,us,vs,e,k⟩=>⟨fid,us,vs,e,λh' l'=>k h' (l.trans l')⟩⟩
theorem B1g.u {h g:PH} {w:Value} {f:D5→Option Bool} [l:LeI h g] (c:B1g h w f):B1g g w f:=c.mono l.le
theorem B1g.call {h:PH} {w:Value} {f:D5→Option Bool} (c:B1g h w f) {pc0:List Value} {x0:D5} (pr0:I6 h pc0 x0) {r_0:Bool} (H:f x0=some r_0):∃ fid us vs,w=.func (.func fid) us.toArray vs.toArray∧∀ L:List E5,J2 prog fid (us++[.agg pc0.toArray]++vs) h L (λv h' L'=>v=.bool r_0∧L'=L):=by
 rcases c.2 with n | ⟨fid,us,vs,e,k⟩
 ·rw [n] at H; cases H
 ·exact ⟨fid,us,vs,e,k h (Le.refl h) pr0 H⟩
def C6N:Vr (D5→Option Bool):=λh cs f=>∃ w,cs=[w]∧B1g h w f
theorem C6N.mono:A1m C6N:=λ_ _ _ _ l ⟨w,e,c⟩=>⟨w,e,c.mono l⟩
instance:MonoC C6N:=⟨C6N.mono⟩
def I9:Vr E9:=λh cs x=>∃ v1,cs=[.string x.F8,.string x.A1X,.string x.X4,.int .i64 x.A0j,.int .i64 x.A0x,.string x.A0y,.bool x.X9,.bool x.Y8,v1]∧G6 VS 1 h v1 x.O9
theorem I9.mono:A1m I9:=λh g cs x l ⟨v1,e,hS2⟩=>⟨v1,e,G6.mono VS.mono hS2 l⟩
instance:MonoC I9:=⟨I9.mono⟩
theorem I9.plain:Plain I9:=λh cs x ⟨v1,e,hS2⟩=>by rw [e]; (simp only [Sl.ones,C7F,G6.one hS2,Bool.and_true,Bool.true_and]) <;> rfl
def B3f (h:PH) (w:Value) (f:E9→Option Bool):Prop:=(w.oneCell'=true∧w.cells=[w].toArray)∧((∀ (x0:E9),f x0=none)∨∃ fid us vs,w=.func (.func fid) us.toArray vs.toArray∧∀ h',Le h h'→∀ {pc0:List Value} {x0:E9} (pr0:I9 h' pc0 x0) {r_0:Bool} (H:f x0=some r_0) (L:List E5),J2 prog fid (us++[.agg pc0.toArray]++vs) h' L (λv h' L'=>v=.bool r_0∧L'=L))
theorem B3f.mono {h g:PH} {w:Value} {f:E9→Option Bool} (c:B3f h w f) (l:Le h g):B3f g w f:=⟨c.1,c.2.imp id λ⟨fid,us,vs,e,k⟩=>⟨fid,us,vs,e,λh' l'=>k h' (l.trans l')⟩⟩
theorem B3f.u {h g:PH} {w:Value} {f:E9→Option Bool} [l:LeI h g] (c:B3f h w f):B3f g w f:=c.mono l.le
theorem B3f.call {h:PH} {w:Value} {f:E9→Option Bool} (c:B3f h w f) {pc0:List Value} {x0:E9} (pr0:I9 h pc0 x0) {r_0:Bool} (H:f x0=some r_0):∃ fid us vs,w=.func (.func fid) us.toArray vs.toArray∧∀ L:List E5,J2 prog fid (us++[.agg pc0.toArray]++vs) h L (λv h' L'=>v=.bool r_0∧L'=L):=by
 rcases c.2 with n | ⟨fid,us,vs,e,k⟩
 ·rw [n] at H; cases H
 ·exact ⟨fid,us,vs,e,k h (Le.refl h) pr0 H⟩
def C7u:Vr (E9→Option Bool):=λh cs f=>∃ w,cs=[w]∧B3f h w f
theorem C7u.mono:A1m C7u:=λ_ _ _ _ l ⟨w,e,c⟩=>⟨w,e,c.mono l⟩
instance:MonoC C7u:=⟨C7u.mono⟩
def B1i (h:PH) (w:Value) (f:ByteArray→Option Bool):Prop:=(w.oneCell'=true∧w.cells=[w].toArray)∧((∀ (x0:ByteArray),f x0=none)∨∃ fid us vs,w=.func (.func fid) us.toArray vs.toArray∧∀ h',Le h h'→∀ {x0:ByteArray} {r_0:Bool} (H:f x0=some r_0) (L:List E5),J2 prog fid (us++[.string x0]++vs) h' L (λv h' L'=>v=.bool r_0∧L'=L))
theorem B1i.mono {h g:PH} {w:Value} {f:ByteArray→Option Bool} (c:B1i h w f) (l:Le h g):B1i g w f:=⟨c.1,c.2.imp id λ⟨fid,us,vs,e,k⟩=>⟨fid,us,vs,e,λh' l'=>k h' (l.trans l')⟩⟩
theorem B1i.u {h g:PH} {w:Value} {f:ByteArray→Option Bool} [l:LeI h g] (c:B1i h w f):B1i g w f:=c.mono l.le
theorem B1i.call {h:PH} {w:Value} {f:ByteArray→Option Bool} (c:B1i h w f) {x0:ByteArray} {r_0:Bool} (H:f x0=some r_0):∃ fid us vs,w=.func (.func fid) us.toArray vs.toArray∧∀ L:List E5,J2 prog fid (us++[.string x0]++vs) h L (λv h' L'=>v=.bool r_0∧L'=L):=by
 rcases c.2 with n | ⟨fid,us,vs,e,k⟩
 ·rw [n] at H; cases H
 ·exact ⟨fid,us,vs,e,k h (Le.refl h) H⟩
def C7k:Vr (ByteArray→Option Bool):=λh cs f=>∃ w,cs=[w]∧B1i h w f
theorem C7k.mono:A1m C7k:=λ_ _ _ _ l ⟨w,e,c⟩=>⟨w,e,c.mono l⟩
instance:MonoC C7k:=⟨C7k.mono⟩
def L9:Vr I1:=λh cs x=>cs=[.string x.fA,.string x.fB,.int .u8 x.F9]
theorem L9.mono:A1m L9:=λh g cs x l e=>e
instance:MonoC L9:=⟨L9.mono⟩
theorem L9.plain:Plain L9:=λh cs x e=>by rw [show cs=_ from e]; rfl
def I5:Vr F4:=λh cs x=>cs=[.int .u8 x.F9,.int .i64 x.K8,.string x.fA,.string x.fB,.string x.I7,.int .i64 x.fN]
theorem I5.mono:A1m I5:=λh g cs x l e=>e
instance:MonoC I5:=⟨I5.mono⟩
theorem I5.plain:Plain I5:=λh cs x e=>by rw [show cs=_ from e]; rfl
def B0C (h:PH) (w:Value) (f:Int→Int→Option Int):Prop:=(w.oneCell'=true∧w.cells=[w].toArray)∧((∀ (x0:Int) (x1:Int),f x0 x1=none)∨∃ fid us vs,w=.func (.func fid) us.toArray vs.toArray∧∀ h',Le h h'→∀ {x0:Int} {x1:Int} {r_0:Int} (H:f x0 x1=some r_0) (L:List E5),J2 prog fid (us++[.int .i64 x0,.int .i64 x1]++vs) h' L (λv h' L'=>v=.int .i64 r_0∧L'=L))
theorem B0C.mono {h g:PH} {w:Value} {f:Int→Int→Option Int} (c:B0C h w f) (l:Le h g):B0C g w f:=⟨c.1,c.2.imp id λ⟨fid,us,vs,e,k⟩=>⟨fid,us,vs,e,λh' l'=>k h' (l.trans l')⟩⟩
theorem B0C.u {h g:PH} {w:Value} {f:Int→Int→Option Int} [l:LeI h g] (c:B0C h w f):B0C g w f:=c.mono l.le
theorem B0C.call {h:PH} {w:Value} {f:Int→Int→Option Int} (c:B0C h w f) {x0:Int} {x1:Int} {r_0:Int} (H:f x0 x1=some r_0):∃ fid us vs,w=.func (.func fid) us.toArray vs.toArray∧∀ L:List E5,J2 prog fid (us++[.int .i64 x0,.int .i64 x1]++vs) h L (λv h' L'=>v=.int .i64 r_0∧L'=L):=by
 rcases c.2 with n | ⟨fid,us,vs,e,k⟩
 ·rw [n] at H; cases H
 ·exact ⟨fid,us,vs,e,k h (Le.refl h) H⟩
def D1l:Vr (Int→Int→Option Int):=λh cs f=>∃ w,cs=[w]∧B0C h w f
theorem D1l.mono:A1m D1l:=λ_ _ _ _ l ⟨w,e,c⟩=>⟨w,e,c.mono l⟩
instance:MonoC D1l:=⟨D1l.mono⟩
def B1d (h:PH) (w:Value) (f:(List Int)→(List Int)→Option Int):Prop:=(w.oneCell'=true∧w.cells=[w].toArray)∧((∀ (x0:List Int) (x1:List Int),f x0 x1=none)∨∃ fid us vs,w=.func (.func fid) us.toArray vs.toArray∧∀ h',Le h h'→∀ {pv0:Value} {x0:List Int} (pr0:G6 (VI .i64) 1 h' pv0 x0) {pv1:Value} {x1:List Int} (pr1:G6 (VI .i64) 1 h' pv1 x1) {r_0:Int} (H:f x0 x1=some r_0) (L:List E5),J2 prog fid (us++[pv0,pv1]++vs) h' L (λv h' L'=>v=.int .i64 r_0∧L'=L))
theorem B1d.mono {h g:PH} {w:Value} {f:(List Int)→(List Int)→Option Int} (c:B1d h w f) (l:Le h g):B1d g w f:=⟨c.1,c.2.imp id λ⟨fid,us,vs,e,k⟩=>⟨fid,us,vs,e,λh' l'=>k h' (l.trans l')⟩⟩
theorem B1d.u {h g:PH} {w:Value} {f:(List Int)→(List Int)→Option Int} [l:LeI h g] (c:B1d h w f):B1d g w f:=c.mono l.le
theorem B1d.call {h:PH} {w:Value} {f:(List Int)→(List Int)→Option Int} (c:B1d h w f) {pv0:Value} {x0:List Int} (pr0:G6 (VI .i64) 1 h pv0 x0) {pv1:Value} {x1:List Int} (pr1:G6 (VI .i64) 1 h pv1 x1) {r_0:Int} (H:f x0 x1=some r_0):∃ fid us vs,w=.func (.func fid) us.toArray vs.toArray∧∀ L:List E5,J2 prog fid (us++[pv0,pv1]++vs) h L (λv h' L'=>v=.int .i64 r_0∧L'=L):=by
 rcases c.2 with n | ⟨fid,us,vs,e,k⟩
 ·rw [n] at H; cases H
 ·exact ⟨fid,us,vs,e,k h (Le.refl h) pr0 pr1 H⟩
def C7y:Vr ((List Int)→(List Int)→Option Int):=λh cs f=>∃ w,cs=[w]∧B1d h w f
theorem C7y.mono:A1m C7y:=λ_ _ _ _ l ⟨w,e,c⟩=>⟨w,e,c.mono l⟩
instance:MonoC C7y:=⟨C7y.mono⟩
def M4:Vr H8:=λh cs x=>cs=[.int .i64 x.A3e,.int .i64 x.Y9,.int .i64 x.A2L]
theorem M4.mono:A1m M4:=λh g cs x l e=>e
instance:MonoC M4:=⟨M4.mono⟩
theorem M4.plain:Plain M4:=λh cs x e=>by rw [show cs=_ from e]; rfl
def B1b (h:PH) (w:Value) (f:H8→H8→Option Int):Prop:=(w.oneCell'=true∧w.cells=[w].toArray)∧((∀ (x0:H8) (x1:H8),f x0 x1=none)∨∃ fid us vs,w=.func (.func fid) us.toArray vs.toArray∧∀ h',Le h h'→∀ {pc0:List Value} {x0:H8} (pr0:M4 h' pc0 x0) {pc1:List Value} {x1:H8} (pr1:M4 h' pc1 x1) {r_0:Int} (H:f x0 x1=some r_0) (L:List E5),J2 prog fid (us++[.agg pc0.toArray,.agg pc1.toArray]++vs) h' L (λv h' L'=>v=.int .i64 r_0∧L'=L))
theorem B1b.mono {h g:PH} {w:Value} {f:H8→H8→Option Int} (c:B1b h w f) (l:Le h g):B1b g w f:=⟨c.1,c.2.imp id λ⟨fid,us,vs,e,k⟩=>⟨fid,us,vs,e,λh' l'=>k h' (l.trans l')⟩⟩
theorem B1b.u {h g:PH} {w:Value} {f:H8→H8→Option Int} [l:LeI h g] (c:B1b h w f):B1b g w f:=c.mono l.le
theorem B1b.call {h:PH} {w:Value} {f:H8→H8→Option Int} (c:B1b h w f) {pc0:List Value} {x0:H8} (pr0:M4 h pc0 x0) {pc1:List Value} {x1:H8} (pr1:M4 h pc1 x1) {r_0:Int} (H:f x0 x1=some r_0):∃ fid us vs,w=.func (.func fid) us.toArray vs.toArray∧∀ L:List E5,J2 prog fid (us++[.agg pc0.toArray,.agg pc1.toArray]++vs) h L (λv h' L'=>v=.int .i64 r_0∧L'=L):=by
 rcases c.2 with n | ⟨fid,us,vs,e,k⟩
 ·rw [n] at H; cases H
 ·exact ⟨fid,us,vs,e,k h (Le.refl h) pr0 pr1 H⟩
def C6Q:Vr (H8→H8→Option Int):=λh cs f=>∃ w,cs=[w]∧B1b h w f
theorem C6Q.mono:A1m C6Q:=λ_ _ _ _ l ⟨w,e,c⟩=>⟨w,e,c.mono l⟩
instance:MonoC C6Q:=⟨C6Q.mono⟩
def B8t (h:PH) (w:Value) (f:(List Int)→(List Int)→Option Bool):Prop:=(w.oneCell'=true∧w.cells=[w].toArray)∧((∀ (x0:List Int) (x1:List Int),f x0 x1=none)∨∃ fid us vs,w=.func (.func fid) us.toArray vs.toArray∧∀ h',Le h h'→∀ {pv0:Value} {x0:List Int} (pr0:G6 (VI .i64) 1 h' pv0 x0) {pv1:Value} {x1:List Int} (pr1:G6 (VI .i64) 1 h' pv1 x1) {r_0:Bool} (H:f x0 x1=some r_0) (L:List E5),J2 prog fid (us++[pv0,pv1]++vs) h' L (λv h' L'=>v=.bool r_0∧L'=L))
theorem B8t.mono {h g:PH} {w:Value} {f:(List Int)→(List Int)→Option Bool} (c:B8t h w f) (l:Le h g):B8t g w f:=⟨c.1,c.2.imp id λ⟨fid,us,vs,e,k⟩=>⟨fid,us,vs,e,λh' l'=>k h' (l.trans l')⟩⟩
theorem B8t.u {h g:PH} {w:Value} {f:(List Int)→(List Int)→Option Bool} [l:LeI h g] (c:B8t h w f):B8t g w f:=c.mono l.le
theorem B8t.call {h:PH} {w:Value} {f:(List Int)→(List Int)→Option Bool} (c:B8t h w f) {pv0:Value} {x0:List Int} (pr0:G6 (VI .i64) 1 h pv0 x0) {pv1:Value} {x1:List Int} (pr1:G6 (VI .i64) 1 h pv1 x1) {r_0:Bool} (H:f x0 x1=some r_0):∃ fid us vs,w=.func (.func fid) us.toArray vs.toArray∧∀ L:List E5,J2 prog fid (us++[pv0,pv1]++vs) h L (λv h' L'=>v=.bool r_0∧L'=L):=by
 rcases c.2 with n | ⟨fid,us,vs,e,k⟩
 ·rw [n] at H; cases H
 ·exact ⟨fid,us,vs,e,k h (Le.refl h) pr0 pr1 H⟩
def D1C:Vr ((List Int)→(List Int)→Option Bool):=λh cs f=>∃ w,cs=[w]∧B8t h w f
theorem D1C.mono:A1m D1C:=λ_ _ _ _ l ⟨w,e,c⟩=>⟨w,e,c.mono l⟩
instance:MonoC D1C:=⟨D1C.mono⟩
def B1M:Vr R4:=λh cs x=>∃ v1 v3,cs=[v1,v3]∧G6 I9 9 h v1 x.A8∧G6 L9 3 h v3 x.O0
theorem B1M.mono:A1m B1M:=λh g cs x l ⟨v1,v3,e,hS2,hS4⟩=>⟨v1,v3,e,G6.mono I9.mono hS2 l,G6.mono L9.mono hS4 l⟩
instance:MonoC B1M:=⟨B1M.mono⟩
def C5x:Vr R4:=λh cs x=>∃ v1 v3,cs=[v1,v3]∧G6 I9 9 h v1 x.A8
def C4n:Vr D5:=λh cs x=>∃ v1,cs=[.string x.F8,.int .u8 x.Q6,.int .i64 x.fA,.int .i64 x.fB,v1,.int .i64 x.fX,.int .i64 x.fY]
def N8:Vr C9:=λh cs x=>∃ v1 v3 v5 v7 v9,cs=[v1,v3,v5,v7,v9]∧G6 I6 7 h v1 x.C8∧G6 I9 9 h v3 x.A8∧G6 L9 3 h v5 x.O0∧G6 (VI .i64) 1 h v7 x.S9∧G6 I5 6 h v9 x.K5
theorem N8.mono:A1m N8:=λh g cs x l ⟨v1,v3,v5,v7,v9,e,hS2,hS4,hS6,hS8,hS10⟩=>⟨v1,v3,v5,v7,v9,e,G6.mono I6.mono hS2 l,G6.mono I9.mono hS4 l,G6.mono L9.mono hS6 l,G6.mono VI.mono hS8 l,G6.mono I5.mono hS10 l⟩
instance:MonoC N8:=⟨N8.mono⟩
def C1q:Vr C9:=λh cs x=>∃ v1 v3 v5 v7 v9,cs=[v1,v3,v5,v7,v9]∧G6 I6 7 h v1 x.C8∧G6 I9 9 h v3 x.A8∧G6 L9 3 h v5 x.O0∧G6 (VI .i64) 1 h v7 x.S9
def A0d:Vr T9:=λh cs x=>∃ v1 v3 v5 v7,cs=[v1,v3,v5,v7]∧G6 (VI .u8) 1 h v1 x.C8∧G6 (VI .u16) 1 h v3 x.A8∧G6 (VI .u8) 1 h v5 x.O0∧G6 (VI .u32) 1 h v7 x.K5
theorem A0d.mono:A1m A0d:=λh g cs x l ⟨v1,v3,v5,v7,e,hS2,hS4,hS6,hS8⟩=>⟨v1,v3,v5,v7,e,G6.mono VI.mono hS2 l,G6.mono VI.mono hS4 l,G6.mono VI.mono hS6 l,G6.mono VI.mono hS8 l⟩
instance:MonoC A0d:=⟨A0d.mono⟩
def A9f (h:PH) (w:Value) (f:Int→Option Int):Prop:=(w.oneCell'=true∧w.cells=[w].toArray)∧((∀ (x0:Int),f x0=none)∨∃ fid us vs,w=.func (.func fid) us.toArray vs.toArray∧∀ h',Le h h'→∀ {x0:Int} {r_0:Int} (H:f x0=some r_0) (L:List E5),J2 prog fid (us++[.int .i64 x0]++vs) h' L (λv h' L'=>v=.int .i64 r_0∧L'=L))
theorem A9f.mono {h g:PH} {w:Value} {f:Int→Option Int} (c:A9f h w f) (l:Le h g):A9f g w f:=⟨c.1,c.2.imp id λ⟨fid,us,vs,e,k⟩=>⟨fid,us,vs,e,λh' l'=>k h' (l.trans l')⟩⟩
theorem A9f.u {h g:PH} {w:Value} {f:Int→Option Int} [l:LeI h g] (c:A9f h w f):A9f g w f:=c.mono l.le
theorem A9f.call {h:PH} {w:Value} {f:Int→Option Int} (c:A9f h w f) {x0:Int} {r_0:Int} (H:f x0=some r_0):∃ fid us vs,w=.func (.func fid) us.toArray vs.toArray∧∀ L:List E5,J2 prog fid (us++[.int .i64 x0]++vs) h L (λv h' L'=>v=.int .i64 r_0∧L'=L):=by
 rcases c.2 with n | ⟨fid,us,vs,e,k⟩
 ·rw [n] at H; cases H
 ·exact ⟨fid,us,vs,e,k h (Le.refl h) H⟩
def A3C:Vr (Int→Option Int):=λh cs f=>∃ w,cs=[w]∧A9f h w f
theorem A3C.mono:A1m A3C:=λ_ _ _ _ l ⟨w,e,c⟩=>⟨w,e,c.mono l⟩
instance:MonoC A3C:=⟨A3C.mono⟩
theorem A3C.plain:Plain A3C:=λ_ _ _ ⟨w,e,c⟩=>by rw [e]; simp only [Sl.ones,c.1.1]; rfl
def A8N (h:PH) (w:Value) (f:Int→Int→Int→Int→Option Bool):Prop:=(w.oneCell'=true∧w.cells=[w].toArray)∧((∀ (x0:Int) (x1:Int) (x2:Int) (x3:Int),f x0 x1 x2 x3=none)∨∃ fid us vs,w=.func (.func fid) us.toArray vs.toArray∧∀ h',Le h h'→∀ {x0:Int} {x1:Int} {x2:Int} {x3:Int} {r_0:Bool} (H:f x0 x1 x2 x3=some r_0) (L:List E5),J2 prog fid (us++[.int .i64 x0,.int .i64 x1,.int .i64 x2,.int .i64 x3]++vs) h' L (λv h' L'=>v=.bool r_0∧L'=L))
theorem A8N.mono {h g:PH} {w:Value} {f:Int→Int→Int→Int→Option Bool} (c:A8N h w f) (l:Le h g):A8N g w f:=⟨c.1,c.2.imp id λ⟨fid,us,vs,e,k⟩=>⟨fid,us,vs,e,λh' l'=>k h' (l.trans l')⟩⟩
theorem A8N.u {h g:PH} {w:Value} {f:Int→Int→Int→Int→Option Bool} [l:LeI h g] (c:A8N h w f):A8N g w f:=c.mono l.le
theorem A8N.call {h:PH} {w:Value} {f:Int→Int→Int→Int→Option Bool} (c:A8N h w f) {x0:Int} {x1:Int} {x2:Int} {x3:Int} {r_0:Bool} (H:f x0 x1 x2 x3=some r_0):∃ fid us vs,w=.func (.func fid) us.toArray vs.toArray∧∀ L:List E5,J2 prog fid (us++[.int .i64 x0,.int .i64 x1,.int .i64 x2,.int .i64 x3]++vs) h L (λv h' L'=>v=.bool r_0∧L'=L):=by
 rcases c.2 with n | ⟨fid,us,vs,e,k⟩
 ·rw [n] at H; cases H
 ·exact ⟨fid,us,vs,e,k h (Le.refl h) H⟩
def C7z:Vr (Int→Int→Int→Int→Option Bool):=λh cs f=>∃ w,cs=[w]∧A8N h w f
theorem C7z.mono:A1m C7z:=λ_ _ _ _ l ⟨w,e,c⟩=>⟨w,e,c.mono l⟩
instance:MonoC C7z:=⟨C7z.mono⟩
def B1U (h:PH) (w:Value) (f:Int→Int→Option (List (Int→Option Int))):Prop:=(w.oneCell'=true∧w.cells=[w].toArray)∧((∀ (x0:Int) (x1:Int),f x0 x1=none)∨∃ fid us vs,w=.func (.func fid) us.toArray vs.toArray∧∀ h',Le h h'→∀ {x0:Int} {x1:Int} {r_0:List (Int→Option Int)} (H:f x0 x1=some r_0) (L:List E5),J2 prog fid (us++[.int .i64 x0,.int .i64 x1]++vs) h' L (λv h' L'=>L'=L∧G6 A3C 1 h' v r_0))
theorem B1U.mono {h g:PH} {w:Value} {f:Int→Int→Option (List (Int→Option Int))} (c:B1U h w f) (l:Le h g):B1U g w f:=⟨c.1,c.2.imp id λ⟨fid,us,vs,e,k⟩=>⟨fid,us,vs,e,λh' l'=>k h' (l.trans l')⟩⟩
theorem B1U.u {h g:PH} {w:Value} {f:Int→Int→Option (List (Int→Option Int))} [l:LeI h g] (c:B1U h w f):B1U g w f:=c.mono l.le
theorem B1U.call {h:PH} {w:Value} {f:Int→Int→Option (List (Int→Option Int))} (c:B1U h w f) {x0:Int} {x1:Int} {r_0:List (Int→Option Int)} (H:f x0 x1=some r_0):∃ fid us vs,w=.func (.func fid) us.toArray vs.toArray∧∀ L:List E5,J2 prog fid (us++[.int .i64 x0,.int .i64 x1]++vs) h L (λv h' L'=>L'=L∧G6 A3C 1 h' v r_0):=by
 rcases c.2 with n | ⟨fid,us,vs,e,k⟩
 ·rw [n] at H; cases H
 ·exact ⟨fid,us,vs,e,k h (Le.refl h) H⟩
def C7B:Vr (Int→Int→Option (List (Int→Option Int))):=λh cs f=>∃ w,cs=[w]∧B1U h w f
theorem C7B.mono:A1m C7B:=λ_ _ _ _ l ⟨w,e,c⟩=>⟨w,e,c.mono l⟩
instance:MonoC C7B:=⟨C7B.mono⟩
def B0G:Vr A1u:=λh cs x=>∃ v1 v3 v5 v7 v9,cs=[.string x.A7s,v1,v3,v5,v7,v9]∧B0C h v1 x.C6e∧A8N h v3 x.Y2∧A8N h v5 x.A0w∧B0C h v7 x.B9R∧B1U h v9 x.C3G
theorem B0G.mono:A1m B0G:=λh g cs x l ⟨v1,v3,v5,v7,v9,e,hF2,hF4,hF6,hF8,hF10⟩=>⟨v1,v3,v5,v7,v9,e,B0C.mono hF2 l,A8N.mono hF4 l,A8N.mono hF6 l,B0C.mono hF8 l,B1U.mono hF10 l⟩
instance:MonoC B0G:=⟨B0G.mono⟩
def A8p:Vr U2:=λh cs x=>∃ v1 v3,cs=[v1,v3]∧G6 I9 9 h v1 x.V6∧G6 L9 3 h v3 x.A0L
theorem A8p.mono:A1m A8p:=λh g cs x l ⟨v1,v3,e,hS2,hS4⟩=>⟨v1,v3,e,G6.mono I9.mono hS2 l,G6.mono L9.mono hS4 l⟩
instance:MonoC A8p:=⟨A8p.mono⟩
def A1p:Vr L6:=λh cs x=>∃ v1 v3 v5,cs=[v1,v3,v5]∧G6 I9 9 h v1 x.K7.V6∧G6 L9 3 h v3 x.K7.A0L∧Mp Value.string false (VI .i64) h v5 x.fat
theorem A1p.mono:A1m A1p:=λh g cs x l ⟨v1,v3,v5,e,hS2,hS4,hM6⟩=>⟨v1,v3,v5,e,G6.mono I9.mono hS2 l,G6.mono L9.mono hS4 l,Mp.mono VI.mono hM6 l⟩
instance:MonoC A1p:=⟨A1p.mono⟩
def B2c (h:PH) (w:Value) (f:I1→I1→Option Int):Prop:=(w.oneCell'=true∧w.cells=[w].toArray)∧((∀ (x0:I1) (x1:I1),f x0 x1=none)∨∃ fid us vs,w=.func (.func fid) us.toArray vs.toArray∧∀ h',Le h h'→∀ {pc0:List Value} {x0:I1} (pr0:L9 h' pc0 x0) {pc1:List Value} {x1:I1} (pr1:L9 h' pc1 x1) {r_0:Int} (H:f x0 x1=some r_0) (L:List E5),J2 prog fid (us++[.agg pc0.toArray,.agg pc1.toArray]++vs) h' L (λv h' L'=>v=.int .i64 r_0∧L'=L))
theorem B2c.mono {h g:PH} {w:Value} {f:I1→I1→Option Int} (c:B2c h w f) (l:Le h g):B2c g w f:=⟨c.1,c.2.imp id λ⟨fid,us,vs,e,k⟩=>⟨fid,us,vs,e,λh' l'=>k h' (l.trans l')⟩⟩
theorem B2c.u {h g:PH} {w:Value} {f:I1→I1→Option Int} [l:LeI h g] (c:B2c h w f):B2c g w f:=c.mono l.le
theorem B2c.call {h:PH} {w:Value} {f:I1→I1→Option Int} (c:B2c h w f) {pc0:List Value} {x0:I1} (pr0:L9 h pc0 x0) {pc1:List Value} {x1:I1} (pr1:L9 h pc1 x1) {r_0:Int} (H:f x0 x1=some r_0):∃ fid us vs,w=.func (.func fid) us.toArray vs.toArray∧∀ L:List E5,J2 prog fid (us++[.agg pc0.toArray,.agg pc1.toArray]++vs) h L (λv h' L'=>v=.int .i64 r_0∧L'=L):=by
 rcases c.2 with n | ⟨fid,us,vs,e,k⟩
 ·rw [n] at H; cases H
 ·exact ⟨fid,us,vs,e,k h (Le.refl h) pr0 pr1 H⟩
def C6Y:Vr (I1→I1→Option Int):=λh cs f=>∃ w,cs=[w]∧B2c h w f
theorem C6Y.mono:A1m C6Y:=λ_ _ _ _ l ⟨w,e,c⟩=>⟨w,e,c.mono l⟩
instance:MonoC C6Y:=⟨C6Y.mono⟩
def K9:Vr H7:=λh cs x=>cs=[.string x.A7s,.int .u8 x.fa,.bool x.fb,.int .u8 x.ft,.bool x.fn,.int .i64 x.flo,.bool x.A6l,(fnV x.C5T)]
theorem K9.mono:A1m K9:=λh g cs x l e=>e
instance:MonoC K9:=⟨K9.mono⟩
def W9:Vr Q5:=λh cs x=>∃ v1 v3 v5 v7 v9 v11 v13 v15 v17 v19 v21 v23 v25 v27,cs=[v1,v3,v5,v7,v9,v11,v13,v15,v17,v19,v21,v23,v25,v27]∧G6 I6 7 h v1 x.P9.C8∧G6 I9 9 h v3 x.P9.A8∧G6 L9 3 h v5 x.P9.O0∧G6 (VI .i64) 1 h v7 x.P9.S9∧G6 I5 6 h v9 x.P9.K5∧Mp (Value.int .u8) true K9 h v11 x.C1v∧G6 (VI .i64) 1 h v13 x.A0k∧G6 (VI .i64) 1 h v15 x.B8v∧G6 VB 1 h v17 x.C5P∧G6 (VSl (VI .i64) 1) 1 h v19 x.Y2∧G6 (VSl (VI .i64) 1) 1 h v21 x.A0w∧G6 (VMp (Value.int .i64) false (VI .i64)) 1 h v23 x.A3q∧G6 (VSl VB 1) 1 h v25 x.B2q∧G6 (VSl (VI .u8) 1) 1 h v27 x.A0L
theorem W9.mono:A1m W9:=λh g cs x l ⟨v1,v3,v5,v7,v9,v11,v13,v15,v17,v19,v21,v23,v25,v27,e,hS2,hS4,hS6,hS8,hS10,hM12,hS14,hS16,hS18,hS20,hS22,hS24,hS26,hS28⟩=>⟨v1,v3,v5,v7,v9,v11,v13,v15,v17,v19,v21,v23,v25,v27,e,G6.mono I6.mono hS2 l,G6.mono I9.mono hS4 l,G6.mono L9.mono hS6 l,G6.mono VI.mono hS8 l,G6.mono I5.mono hS10 l,Mp.mono K9.mono hM12 l,G6.mono VI.mono hS14 l,G6.mono VI.mono hS16 l,G6.mono VB.mono hS18 l,G6.mono (VSl.mono VI.mono) hS20 l,G6.mono (VSl.mono VI.mono) hS22 l,G6.mono (VMp.mono VI.mono) hS24 l,G6.mono (VSl.mono VB.mono) hS26 l,G6.mono (VSl.mono VI.mono) hS28 l⟩
instance:MonoC W9:=⟨W9.mono⟩
def M5:Vr F5:=λh cs x=>∃ v1 v3 v5,cs=[v1,v3,v5]∧Pt W9 h v1 x.F7∧G6 (VI .i64) 1 h v3 x.Q9∧G6 (VI .i64) 1 h v5 x.B3N
theorem M5.mono:A1m M5:=λh g cs x l ⟨v1,v3,v5,e,hP2,hS4,hS6⟩=>⟨v1,v3,v5,e,Pt.mono W9.mono hP2 l,G6.mono VI.mono hS4 l,G6.mono VI.mono hS6 l⟩
instance:MonoC M5:=⟨M5.mono⟩
def X6 {σ:Type} (R:σ→PH→List E5→Prop) (h:PH) (w:Value) (f:σ→Int→(List Int)→Option σ):Prop:=(w.oneCell'=true∧w.cells=[w].toArray)∧(∀ s h h' La,Le h h'→R s h La→R s h' La)∧∀ h',Le h h'→∀ {x0:Int} {pv1:Value} {x1:List Int} (pr1:G6 (VI .i64) 1 h' pv1 x1) {s s':σ} {La:List E5}  (hR:R s h' La) (H:f s x0 x1=some s') (As L:List E5),Yld prog w [.int .i64 x0,pv1] h' (As++(La++L)) (λv h2 L'=>∃ La',v=.tuple #[]∧L'=As++(La'++L)∧R s' h2 La')
theorem X6.mono {σ:Type} {R:σ→PH→List E5→Prop} {h g:PH} {w:Value} {f:σ→Int→(List Int)→Option σ} (c:X6 R h w f) (l:Le h g):X6 R g w f:=⟨c.1,c.2.1,λh' l'=>c.2.2 h' (l.trans l')⟩
theorem X6.u {σ:Type} {R:σ→PH→List E5→Prop} {h g:PH} {w:Value} {f:σ→Int→(List Int)→Option σ} [l:LeI h g] (c:X6 R h w f):X6 R g w f:=c.mono l.le
theorem X6.call {σ:Type} {R:σ→PH→List E5→Prop} {h:PH} {w:Value} {f:σ→Int→(List Int)→Option σ} (c:X6 R h w f):∀ {x0:Int} {pv1:Value} {x1:List Int} (pr1:G6 (VI .i64) 1 h pv1 x1) {s s':σ} {La:List E5}  (hR:R s h La) (H:f s x0 x1=some s') (As L:List E5),Yld prog w [.int .i64 x0,pv1] h (As++(La++L)) (λv h2 L'=>∃ La',v=.tuple #[]∧L'=As++(La'++L)∧R s' h2 La'):=λpr1=>λhR H As L=>c.2.2 h (Le.refl h) pr1 hR H As L
def A9M (h:PH) (w:Value) (f:Int→Int→Option Bool):Prop:=(w.oneCell'=true∧w.cells=[w].toArray)∧((∀ (x0:Int) (x1:Int),f x0 x1=none)∨∃ fid us vs,w=.func (.func fid) us.toArray vs.toArray∧∀ h',Le h h'→∀ {x0:Int} {x1:Int} {r_0:Bool} (H:f x0 x1=some r_0) (L:List E5),J2 prog fid (us++[.int .i64 x0,.int .i64 x1]++vs) h' L (λv h' L'=>v=.bool r_0∧L'=L))
theorem A9M.mono {h g:PH} {w:Value} {f:Int→Int→Option Bool} (c:A9M h w f) (l:Le h g):A9M g w f:=⟨c.1,c.2.imp id λ⟨fid,us,vs,e,k⟩=>⟨fid,us,vs,e,λh' l'=>k h' (l.trans l')⟩⟩
theorem A9M.u {h g:PH} {w:Value} {f:Int→Int→Option Bool} [l:LeI h g] (c:A9M h w f):A9M g w f:=c.mono l.le
theorem A9M.call {h:PH} {w:Value} {f:Int→Int→Option Bool} (c:A9M h w f) {x0:Int} {x1:Int} {r_0:Bool} (H:f x0 x1=some r_0):∃ fid us vs,w=.func (.func fid) us.toArray vs.toArray∧∀ L:List E5,J2 prog fid (us++[.int .i64 x0,.int .i64 x1]++vs) h L (λv h' L'=>v=.bool r_0∧L'=L):=by
 rcases c.2 with n | ⟨fid,us,vs,e,k⟩
 ·rw [n] at H; cases H
 ·exact ⟨fid,us,vs,e,k h (Le.refl h) H⟩
def C7c:Vr (Int→Int→Option Bool):=λh cs f=>∃ w,cs=[w]∧A9M h w f
theorem C7c.mono:A1m C7c:=λ_ _ _ _ l ⟨w,e,c⟩=>⟨w,e,c.mono l⟩
instance:MonoC C7c:=⟨C7c.mono⟩
def B1I {σ:Type} (R:σ→PH→List E5→Prop) (h:PH) (w:Value) (f:σ→(List Int)→Option σ):Prop:=(w.oneCell'=true∧w.cells=[w].toArray)∧(∀ s h h' La,Le h h'→R s h La→R s h' La)∧∀ h',Le h h'→∀ {pv0:Value} {x0:List Int} (pr0:G6 (VI .i64) 1 h' pv0 x0) {s s':σ} {La:List E5}  (hR:R s h' La) (H:f s x0=some s') (As L:List E5),Yld prog w [pv0] h' (As++(La++L)) (λv h2 L'=>∃ La',v=.tuple #[]∧L'=As++(La'++L)∧R s' h2 La')
theorem B1I.mono {σ:Type} {R:σ→PH→List E5→Prop} {h g:PH} {w:Value} {f:σ→(List Int)→Option σ} (c:B1I R h w f) (l:Le h g):B1I R g w f:=⟨c.1,c.2.1,λh' l'=>c.2.2 h' (l.trans l')⟩
theorem B1I.u {σ:Type} {R:σ→PH→List E5→Prop} {h g:PH} {w:Value} {f:σ→(List Int)→Option σ} [l:LeI h g] (c:B1I R h w f):B1I R g w f:=c.mono l.le
theorem B1I.call {σ:Type} {R:σ→PH→List E5→Prop} {h:PH} {w:Value} {f:σ→(List Int)→Option σ} (c:B1I R h w f):∀ {pv0:Value} {x0:List Int} (pr0:G6 (VI .i64) 1 h pv0 x0) {s s':σ} {La:List E5}  (hR:R s h La) (H:f s x0=some s') (As L:List E5),Yld prog w [pv0] h (As++(La++L)) (λv h2 L'=>∃ La',v=.tuple #[]∧L'=As++(La'++L)∧R s' h2 La'):=λpr0=>λhR H As L=>c.2.2 h (Le.refl h) pr0 hR H As L
def B3l (h:PH) (w:Value) (f:F5→Int→Option Int):Prop:=(w.oneCell'=true∧w.cells=[w].toArray)∧((∀ (x0:F5) (x1:Int),f x0 x1=none)∨∃ fid us vs,w=.func (.func fid) us.toArray vs.toArray∧∀ h',Le h h'→∀ {pv0:Value} {x0:F5} (pr0:Pt M5 h' pv0 x0) {x1:Int} {r_0:Int} (H:f x0 x1=some r_0) (L:List E5),J2 prog fid (us++[pv0,.int .i64 x1]++vs) h' L (λv h' L'=>v=.int .i64 r_0∧L'=L))
theorem B3l.mono {h g:PH} {w:Value} {f:F5→Int→Option Int} (c:B3l h w f) (l:Le h g):B3l g w f:=⟨c.1,c.2.imp id λ⟨fid,us,vs,e,k⟩=>⟨fid,us,vs,e,λh' l'=>k h' (l.trans l')⟩⟩
theorem B3l.u {h g:PH} {w:Value} {f:F5→Int→Option Int} [l:LeI h g] (c:B3l h w f):B3l g w f:=c.mono l.le
theorem B3l.call {h:PH} {w:Value} {f:F5→Int→Option Int} (c:B3l h w f) {pv0:Value} {x0:F5} (pr0:Pt M5 h pv0 x0) {x1:Int} {r_0:Int} (H:f x0 x1=some r_0):∃ fid us vs,w=.func (.func fid) us.toArray vs.toArray∧∀ L:List E5,J2 prog fid (us++[pv0,.int .i64 x1]++vs) h L (λv h' L'=>v=.int .i64 r_0∧L'=L):=by
 rcases c.2 with n | ⟨fid,us,vs,e,k⟩
 ·rw [n] at H; cases H
 ·exact ⟨fid,us,vs,e,k h (Le.refl h) pr0 H⟩
def C7p:Vr (F5→Int→Option Int):=λh cs f=>∃ w,cs=[w]∧B3l h w f
theorem C7p.mono:A1m C7p:=λ_ _ _ _ l ⟨w,e,c⟩=>⟨w,e,c.mono l⟩
instance:MonoC C7p:=⟨C7p.mono⟩
def C1G {σ:Type} (R:σ→PH→List E5→Prop) (h:PH) (w:Value) (f:σ→(List Int)→Option (σ×Bool)):Prop:=(w.oneCell'=true∧w.cells=[w].toArray)∧(∀ s h h' La,Le h h'→R s h La→R s h' La)∧∀ h',Le h h'→∀ {pv0:Value} {x0:List Int} (pr0:G6 (VI .i64) 1 h' pv0 x0) {s s':σ} {La:List E5} {r_0:Bool} (hR:R s h' La) (H:f s x0=some (s',r_0)) (As L:List E5),Yld prog w [pv0] h' (As++(La++L)) (λv h2 L'=>∃ La',v=.bool r_0∧L'=As++(La'++L)∧R s' h2 La')
theorem C1G.mono {σ:Type} {R:σ→PH→List E5→Prop} {h g:PH} {w:Value} {f:σ→(List Int)→Option (σ×Bool)} (c:C1G R h w f) (l:Le h g):C1G R g w f:=⟨c.1,c.2.1,λh' l'=>c.2.2 h' (l.trans l')⟩
theorem C1G.u {σ:Type} {R:σ→PH→List E5→Prop} {h g:PH} {w:Value} {f:σ→(List Int)→Option (σ×Bool)} [l:LeI h g] (c:C1G R h w f):C1G R g w f:=c.mono l.le
theorem C1G.call {σ:Type} {R:σ→PH→List E5→Prop} {h:PH} {w:Value} {f:σ→(List Int)→Option (σ×Bool)} (c:C1G R h w f):∀ {pv0:Value} {x0:List Int} (pr0:G6 (VI .i64) 1 h pv0 x0) {s s':σ} {La:List E5} {r_0:Bool} (hR:R s h La) (H:f s x0=some (s',r_0)) (As L:List E5),Yld prog w [pv0] h (As++(La++L)) (λv h2 L'=>∃ La',v=.bool r_0∧L'=As++(La'++L)∧R s' h2 La'):=λpr0=>λhR H As L=>c.2.2 h (Le.refl h) pr0 hR H As L
def R6:Vr M7:=λh cs x=>∃ v1 v3 v5 v7 v9 v11 v13 v15 v17,cs=[v1,v3,v5,v7,v9,v11,v13,v15,v17]∧Pt W9 h v1 x.F7∧G6 I6 7 h v3 x.fp.C8∧G6 I9 9 h v5 x.fp.A8∧G6 L9 3 h v7 x.fp.O0∧G6 (VI .i64) 1 h v9 x.fp.S9∧G6 I5 6 h v11 x.fp.K5∧G6 (VI .i64) 1 h v13 x.A0k∧G6 (VI .i64) 1 h v15 x.B8D∧G6 (VSl (VSl (VI .i64) 1) 1) 1 h v17 x.B2C
theorem R6.mono:A1m R6:=λh g cs x l ⟨v1,v3,v5,v7,v9,v11,v13,v15,v17,e,hP2,hS4,hS6,hS8,hS10,hS12,hS14,hS16,hS18⟩=>⟨v1,v3,v5,v7,v9,v11,v13,v15,v17,e,Pt.mono W9.mono hP2 l,G6.mono I6.mono hS4 l,G6.mono I9.mono hS6 l,G6.mono L9.mono hS8 l,G6.mono VI.mono hS10 l,G6.mono I5.mono hS12 l,G6.mono VI.mono hS14 l,G6.mono VI.mono hS16 l,G6.mono (VSl.mono (VSl.mono VI.mono)) hS18 l⟩
instance:MonoC R6:=⟨R6.mono⟩
def A8F {σ:Type} (R:σ→PH→List E5→Prop) (h:PH) (w:Value) (f:σ→(List Int)→Option (σ×Bool)):Prop:=(w.oneCell'=true∧w.cells=[w].toArray)∧(∀ s h h' La,Le h h'→R s h La→R s h' La)∧∀ h',Le h h'→∀ {pv0:Value} {pcs0:List (List Value)} {x0:List Int} (pr0:A7 (VI .i64) h' pcs0 x0) {s s':σ} {La:List E5} {r_0:Bool} (hR:R s h' La) (H:f s x0=some (s',r_0)) (As L:List E5),Yld prog w [pv0] h' (F3 3 1 pv0 pcs0::(As++(La++L))) (λv h2 L'=>∃ La' ls,v=.bool r_0∧L'=F3 3 1 pv0 ls::(As++(La'++L))∧R s' h2 La'∧A7 (VI .i64) h2 ls x0)
theorem A8F.mono {σ:Type} {R:σ→PH→List E5→Prop} {h g:PH} {w:Value} {f:σ→(List Int)→Option (σ×Bool)} (c:A8F R h w f) (l:Le h g):A8F R g w f:=⟨c.1,c.2.1,λh' l'=>c.2.2 h' (l.trans l')⟩
theorem A8F.u {σ:Type} {R:σ→PH→List E5→Prop} {h g:PH} {w:Value} {f:σ→(List Int)→Option (σ×Bool)} [l:LeI h g] (c:A8F R h w f):A8F R g w f:=c.mono l.le
theorem A8F.call {σ:Type} {R:σ→PH→List E5→Prop} {h:PH} {w:Value} {f:σ→(List Int)→Option (σ×Bool)} (c:A8F R h w f):∀ {pv0:Value} {pcs0:List (List Value)} {x0:List Int} (pr0:A7 (VI .i64) h pcs0 x0) {s s':σ} {La:List E5} {r_0:Bool} (hR:R s h La) (H:f s x0=some (s',r_0)) (As L:List E5),Yld prog w [pv0] h (F3 3 1 pv0 pcs0::(As++(La++L))) (λv h2 L'=>∃ La' ls,v=.bool r_0∧L'=F3 3 1 pv0 ls::(As++(La'++L))∧R s' h2 La'∧A7 (VI .i64) h2 ls x0):=λpr0=>λhR H As L=>c.2.2 h (Le.refl h) pr0 hR H As L
def A3I:Vr O3:=λh cs x=>cs=[.int .u8 x.F9,.int .i64 x.fN]
theorem A3I.mono:A1m A3I:=λh g cs x l e=>e
instance:MonoC A3I:=⟨A3I.mono⟩
def A8z:Vr R3:=λh cs x=>∃ v1 v3 v5,cs=[v1,.int .i64 x.A7x,v3,.int .i64 x.fat,v5]∧Pt R6 h v1 x.A9V∧G6 A3I 2 h v3 x.A3q∧G6 (VI .i64) 1 h v5 x.Q9
theorem A8z.mono:A1m A8z:=λh g cs x l ⟨v1,v3,v5,e,hP2,hS4,hS6⟩=>⟨v1,v3,v5,e,Pt.mono R6.mono hP2 l,G6.mono A3I.mono hS4 l,G6.mono VI.mono hS6 l⟩
instance:MonoC A8z:=⟨A8z.mono⟩
def A9q:Vr A0c:=λh cs x=>cs=[.int .i64 x.fat,.int .i64 x.fe]
theorem A9q.mono:A1m A9q:=λh g cs x l e=>e
instance:MonoC A9q:=⟨A9q.mono⟩
def B2s:Vr A9B:=λh cs x=>∃ v1,cs=[v1,.int .i64 x.A3e]∧G6 (VI .i64) 1 h v1 x.D0m
theorem B2s.mono:A1m B2s:=λh g cs x l ⟨v1,e,hS2⟩=>⟨v1,e,G6.mono VI.mono hS2 l⟩
instance:MonoC B2s:=⟨B2s.mono⟩
end Go.Dm
