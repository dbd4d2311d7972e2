import Derived.Test.YthchjfilgaondaaGreatChecked
import Derived.Test.YthchjfilgaondaaGreatDa
import Derived.Test.YthchjfilgaondaaGreatL10
/- How values stand for data. -/
set_option maxRecDepth 1000000
set_option maxHeartbeats 40000000
set_option linter.unusedVariables false
set_option linter.unusedSimpArgs false
set_option linter.unusedSectionVars false
set_option linter.unnecessarySimpa false
open Go Go.Proofs Go.Proofs.Tryz Go.Sl
namespace Go.Dm
def A2D (h:PH) (w:Value) (f:Int→Option Bool):Prop:=(w.oneCell'=true∧w.cells=[w].toArray)∧((∀ (x0:Int),f x0=none)∨∃ fid us vs,w=.func (.func fid) us.toArray vs.toArray∧∀ h',Le h h'→∀ {x0:Int} {r_0:Bool} (H:f x0=some r_0) (L:List E5),I7 prog fid (us++[.int .i64 x0]++vs) h' L (λv h' L'=>v=.bool r_0∧L'=L))
theorem A2D.mono {h g:PH} {w:Value} {f:Int→Option Bool} (c:A2D h w f) (l:Le h g):A2D g w f:=⟨c.1,c.2.imp id λ⟨fid,us,vs,e,k⟩=>⟨fid,us,vs,e,λh' l'=>k h' (l.trans l')⟩⟩
theorem A2D.u {h g:PH} {w:Value} {f:Int→Option Bool} [l:LeI h g] (c:A2D h w f):A2D g w f:=c.mono l.le
theorem A2D.call {h:PH} {w:Value} {f:Int→Option Bool} (c:A2D h w f) {x0:Int} {r_0:Bool} (H:f x0=some r_0):∃ fid us vs,w=.func (.func fid) us.toArray vs.toArray∧∀ L:List E5,I7 prog fid (us++[.int .i64 x0]++vs) h L (λv h' L'=>v=.bool r_0∧L'=L):=by
 rcases c.2 with n | ⟨fid,us,vs,e,k⟩
 ·rw [n] at H; cases H
 ·exact ⟨fid,us,vs,e,k h (Le.refl h) H⟩
def C3d:Vr (Int→Option Bool):=λh cs f=>∃ w,cs=[w]∧A2D h w f
theorem C3d.mono:A1i C3d:=λ_ _ _ _ l ⟨w,e,c⟩=>⟨w,e,c.mono l⟩
instance:MonoC C3d:=⟨C3d.mono⟩
def I1:Vr D7:=λh cs x=>∃ v1,cs=[.string x.F8,.int .u8 x.P8,.int .i64 x.fA,.int .i64 x.fB,v1,.int .i64 x.fX,.int .i64 x.fY]∧G9 (VI .i64) 1 h v1 x.A2Y
theorem I1.mono:A1i I1:=λh g cs x l ⟨v1,e,hS2⟩=>⟨v1,e,G9.mono VI.mono hS2 l⟩
instance:MonoC I1:=⟨I1.mono⟩
theorem I1.plain:Plain I1:=λh cs x ⟨v1,e,hS2⟩=>by rw [e]; (simp only [Sl.ones,C7L,G9.one hS2,Bool.and_true,Bool.true_and]) <;> rfl
def B0s (h:PH) (w:Value) (f:D7→Option Bool):Prop:=(w.oneCell'=true∧w.cells=[w].toArray)∧((∀ (x0:D7),f x0=none)∨∃ fid us vs,w=.func (.func fid) us.toArray vs.toArray∧∀ h',Le h h'→∀ {pc0:List Value} {x0:D7} (pr0:I1 h' pc0 x0) {r_0:Bool} (H:f x0=some r_0) (L:List E5),I7 prog fid (us++[.agg pc0.toArray]++vs) h' L (λv h' L'=>v=.bool r_0∧L'=L))
theorem B0s.mono {h g:PH} {w:Value} {f:D7→Option Bool} (c:B0s h w f) (l:Le h g):B0s g w f:=⟨c.1,c.2.imp id λ⟨fid,us,vs,e,k⟩=>⟨fid,us,vs,e,λh' l'=>k h' (l.trans l')⟩⟩
theorem B0s.u {h g:PH} {w:Value} {f:D7→Option Bool} [l:LeI h g] (c:B0s h w f):B0s g w f:=c.mono l.le
theorem B0s.call {h:PH} {w:Value} {f:D7→Option Bool} (c:B0s h w f) {pc0:List Value} {x0:D7} (pr0:I1 h pc0 x0) {r_0:Bool} (H:f x0=some r_0):∃ fid us vs,w=.func (.func fid) us.toArray vs.toArray∧∀ L:List E5,I7 prog fid (us++[.agg pc0.toArray]++vs) h L (λv h' L'=>v=.bool r_0∧L'=L):=by
 rcases c.2 with n | ⟨fid,us,vs,e,k⟩
 ·rw [n] at H; cases H
 ·exact ⟨fid,us,vs,e,k h (Le.refl h) pr0 H⟩
def C7b:Vr (D7→Option Bool):=λh cs f=>∃ w,cs=[w]∧B0s h w f
theorem C7b.mono:A1i C7b:=λ_ _ _ _ l ⟨w,e,c⟩=>⟨w,e,c.mono l⟩
instance:MonoC C7b:=⟨C7b.mono⟩
def I9:Vr E9:=λh cs x=>∃ v1,cs=[.string x.F8,.string x.A2b,.string x.V6,.int .i64 x.A0o,.int .i64 x.A0y,.string x.A0z,.bool x.X7,.bool x.Y4,v1]∧G9 VS 1 h v1 x.O6
theorem I9.mono:A1i I9:=λh g cs x l ⟨v1,e,hS2⟩=>⟨v1,e,G9.mono VS.mono hS2 l⟩
instance:MonoC I9:=⟨I9.mono⟩
theorem I9.plain:Plain I9:=λh cs x ⟨v1,e,hS2⟩=>by rw [e]; (simp only [Sl.ones,C7L,G9.one hS2,Bool.and_true,Bool.true_and]) <;> rfl
def B2T (h:PH) (w:Value) (f:E9→Option Bool):Prop:=(w.oneCell'=true∧w.cells=[w].toArray)∧((∀ (x0:E9),f x0=none)∨∃ fid us vs,w=.func (.func fid) us.toArray vs.toArray∧∀ h',Le h h'→∀ {pc0:List Value} {x0:E9} (pr0:I9 h' pc0 x0) {r_0:Bool} (H:f x0=some r_0) (L:List E5),I7 prog fid (us++[.agg pc0.toArray]++vs) h' L (λv h' L'=>v=.bool r_0∧L'=L))
theorem B2T.mono {h g:PH} {w:Value} {f:E9→Option Bool} (c:B2T h w f) (l:Le h g):B2T g w f:=⟨c.1,c.2.imp id λ⟨fid,us,vs,e,k⟩=>⟨fid,us,vs,e,λh' l'=>k h' (l.trans l')⟩⟩
theorem B2T.u {h g:PH} {w:Value} {f:E9→Option Bool} [l:LeI h g] (c:B2T h w f):B2T g w f:=c.mono l.le
theorem B2T.call {h:PH} {w:Value} {f:E9→Option Bool} (c:B2T h w f) {pc0:List Value} {x0:E9} (pr0:I9 h pc0 x0) {r_0:Bool} (H:f x0=some r_0):∃ fid us vs,w=.func (.func fid) us.toArray vs.toArray∧∀ L:List E5,I7 prog fid (us++[.agg pc0.toArray]++vs) h L (λv h' L'=>v=.bool r_0∧L'=L):=by
 rcases c.2 with n | ⟨fid,us,vs,e,k⟩
 ·rw [n] at H; cases H
 ·exact ⟨fid,us,vs,e,k h (Le.refl h) pr0 H⟩
def C7I:Vr (E9→Option Bool):=λh cs f=>∃ w,cs=[w]∧B2T h w f
theorem C7I.mono:A1i C7I:=λ_ _ _ _ l ⟨w,e,c⟩=>⟨w,e,c.mono l⟩
instance:MonoC C7I:=⟨C7I.mono⟩
def B0O (h:PH) (w:Value) (f:ByteArray→Option Bool):Prop:=(w.oneCell'=true∧w.cells=[w].toArray)∧((∀ (x0:ByteArray),f x0=none)∨∃ fid us vs,w=.func (.func fid) us.toArray vs.toArray∧∀ h',Le h h'→∀ {x0:ByteArray} {r_0:Bool} (H:f x0=some r_0) (L:List E5),I7 prog fid (us++[.string x0]++vs) h' L (λv h' L'=>v=.bool r_0∧L'=L))
theorem B0O.mono {h g:PH} {w:Value} {f:ByteArray→Option Bool} (c:B0O h w f) (l:Le h g):B0O g w f:=⟨c.1,c.2.imp id λ⟨fid,us,vs,e,k⟩=>⟨fid,us,vs,e,λh' l'=>k h' (l.trans l')⟩⟩
theorem B0O.u {h g:PH} {w:Value} {f:ByteArray→Option Bool} [l:LeI h g] (c:B0O h w f):B0O g w f:=c.mono l.le
theorem B0O.call {h:PH} {w:Value} {f:ByteArray→Option Bool} (c:B0O h w f) {x0:ByteArray} {r_0:Bool} (H:f x0=some r_0):∃ fid us vs,w=.func (.func fid) us.toArray vs.toArray∧∀ L:List E5,I7 prog fid (us++[.string x0]++vs) h L (λv h' L'=>v=.bool r_0∧L'=L):=by
 rcases c.2 with n | ⟨fid,us,vs,e,k⟩
 ·rw [n] at H; cases H
 ·exact ⟨fid,us,vs,e,k h (Le.refl h) H⟩
def C7s:Vr (ByteArray→Option Bool):=λh cs f=>∃ w,cs=[w]∧B0O h w f
theorem C7s.mono:A1i C7s:=λ_ _ _ _ l ⟨w,e,c⟩=>⟨w,e,c.mono l⟩
instance:MonoC C7s:=⟨C7s.mono⟩
def L9:Vr H9:=λh cs x=>cs=[.string x.fA,.string x.fB,.int .u8 x.F9]
theorem L9.mono:A1i L9:=λh g cs x l e=>e
instance:MonoC L9:=⟨L9.mono⟩
theorem L9.plain:Plain L9:=λh cs x e=>by rw [show cs=_ from e]; rfl
def I4:Vr F7:=λh cs x=>cs=[.int .u8 x.F9,.int .i64 x.K6,.string x.fA,.string x.fB,.string x.I5,.int .i64 x.fN]
theorem I4.mono:A1i I4:=λh g cs x l e=>e
instance:MonoC I4:=⟨I4.mono⟩
theorem I4.plain:Plain I4:=λh cs x e=>by rw [show cs=_ from e]; rfl
def B0r (h:PH) (w:Value) (f:Int→Int→Option Int):Prop:=(w.oneCell'=true∧w.cells=[w].toArray)∧((∀ (x0:Int) (x1:Int),f x0 x1=none)∨∃ fid us vs,w=.func (.func fid) us.toArray vs.toArray∧∀ h',Le h h'→∀ {x0:Int} {x1:Int} {r_0:Int} (H:f x0 x1=some r_0) (L:List E5),I7 prog fid (us++[.int .i64 x0,.int .i64 x1]++vs) h' L (λv h' L'=>v=.int .i64 r_0∧L'=L))
theorem B0r.mono {h g:PH} {w:Value} {f:Int→Int→Option Int} (c:B0r h w f) (l:Le h g):B0r g w f:=⟨c.1,c.2.imp id λ⟨fid,us,vs,e,k⟩=>⟨fid,us,vs,e,λh' l'=>k h' (l.trans l')⟩⟩
theorem B0r.u {h g:PH} {w:Value} {f:Int→Int→Option Int} [l:LeI h g] (c:B0r h w f):B0r g w f:=c.mono l.le
theorem B0r.call {h:PH} {w:Value} {f:Int→Int→Option Int} (c:B0r h w f) {x0:Int} {x1:Int} {r_0:Int} (H:f x0 x1=some r_0):∃ fid us vs,w=.func (.func fid) us.toArray vs.toArray∧∀ L:List E5,I7 prog fid (us++[.int .i64 x0,.int .i64 x1]++vs) h L (λv h' L'=>v=.int .i64 r_0∧L'=L):=by
 rcases c.2 with n | ⟨fid,us,vs,e,k⟩
 ·rw [n] at H; cases H
 ·exact ⟨fid,us,vs,e,k h (Le.refl h) H⟩
def D1a:Vr (Int→Int→Option Int):=λh cs f=>∃ w,cs=[w]∧B0r h w f
theorem D1a.mono:A1i D1a:=λ_ _ _ _ l ⟨w,e,c⟩=>⟨w,e,c.mono l⟩
instance:MonoC D1a:=⟨D1a.mono⟩
def B0C (h:PH) (w:Value) (f:(List Int)→(List Int)→Option Int):Prop:=(w.oneCell'=true∧w.cells=[w].toArray)∧((∀ (x0:List Int) (x1:List Int),f x0 x1=none)∨∃ fid us vs,w=.func (.func fid) us.toArray vs.toArray∧∀ h',Le h h'→∀ {pv0:Value} {x0:List Int} (pr0:G9 (VI .i64) 1 h' pv0 x0) {pv1:Value} {x1:List Int} (pr1:G9 (VI .i64) 1 h' pv1 x1) {r_0:Int} (H:f x0 x1=some r_0) (L:List E5),I7 prog fid (us++[pv0,pv1]++vs) h' L (λv h' L'=>v=.int .i64 r_0∧L'=L))
theorem B0C.mono {h g:PH} {w:Value} {f:(List Int)→(List Int)→Option Int} (c:B0C h w f) (l:Le h g):B0C g w f:=⟨c.1,c.2.imp id λ⟨fid,us,vs,e,k⟩=>⟨fid,us,vs,e,λh' l'=>k h' (l.trans l')⟩⟩
theorem B0C.u {h g:PH} {w:Value} {f:(List Int)→(List Int)→Option Int} [l:LeI h g] (c:B0C h w f):B0C g w f:=c.mono l.le
theorem B0C.call {h:PH} {w:Value} {f:(List Int)→(List Int)→Option Int} (c:B0C h w f) {pv0:Value} {x0:List Int} (pr0:G9 (VI .i64) 1 h pv0 x0) {pv1:Value} {x1:List Int} (pr1:G9 (VI .i64) 1 h pv1 x1) {r_0:Int} (H:f x0 x1=some r_0):∃ fid us vs,w=.func (.func fid) us.toArray vs.toArray∧∀ L:List E5,I7 prog fid (us++[pv0,pv1]++vs) h L (λv h' L'=>v=.int .i64 r_0∧L'=L):=by
 rcases c.2 with n | ⟨fid,us,vs,e,k⟩
 ·rw [n] at H; cases H
 ·exact ⟨fid,us,vs,e,k h (Le.refl h) pr0 pr1 H⟩
def C7c:Vr ((List Int)→(List Int)→Option Int):=λh cs f=>∃ w,cs=[w]∧B0C h w f
theorem C7c.mono:A1i C7c:=λ_ _ _ _ l ⟨w,e,c⟩=>⟨w,e,c.mono l⟩
instance:MonoC C7c:=⟨C7c.mono⟩
def M5:Vr H8:=λh cs x=>cs=[.int .i64 x.A3v,.int .i64 x.Y6,.int .i64 x.A3h]
theorem M5.mono:A1i M5:=λh g cs x l e=>e
instance:MonoC M5:=⟨M5.mono⟩
theorem M5.plain:Plain M5:=λh cs x e=>by rw [show cs=_ from e]; rfl
def B0Q (h:PH) (w:Value) (f:H8→H8→Option Int):Prop:=(w.oneCell'=true∧w.cells=[w].toArray)∧((∀ (x0:H8) (x1:H8),f x0 x1=none)∨∃ fid us vs,w=.func (.func fid) us.toArray vs.toArray∧∀ h',Le h h'→∀ {pc0:List Value} {x0:H8} (pr0:M5 h' pc0 x0) {pc1:List Value} {x1:H8} (pr1:M5 h' pc1 x1) {r_0:Int} (H:f x0 x1=some r_0) (L:List E5),I7 prog fid (us++[.agg pc0.toArray,.agg pc1.toArray]++vs) h' L (λv h' L'=>v=.int .i64 r_0∧L'=L))
theorem B0Q.mono {h g:PH} {w:Value} {f:H8→H8→Option Int} (c:B0Q h w f) (l:Le h g):B0Q g w f:=⟨c.1,c.2.imp id λ⟨fid,us,vs,e,k⟩=>⟨fid,us,vs,e,λh' l'=>k h' (l.trans l')⟩⟩
theorem B0Q.u {h g:PH} {w:Value} {f:H8→H8→Option Int} [l:LeI h g] (c:B0Q h w f):B0Q g w f:=c.mono l.le
theorem B0Q.call {h:PH} {w:Value} {f:H8→H8→Option Int} (c:B0Q h w f) {pc0:List Value} {x0:H8} (pr0:M5 h pc0 x0) {pc1:List Value} {x1:H8} (pr1:M5 h pc1 x1) {r_0:Int} (H:f x0 x1=some r_0):∃ fid us vs,w=.func (.func fid) us.toArray vs.toArray∧∀ L:List E5,I7 prog fid (us++[.agg pc0.toArray,.agg pc1.toArray]++vs) h L (λv h' L'=>v=.int .i64 r_0∧L'=L):=by
 rcases c.2 with n | ⟨fid,us,vs,e,k⟩
 ·rw [n] at H; cases H
 ·exact ⟨fid,us,vs,e,k h (Le.refl h) pr0 pr1 H⟩
def C7m:Vr (H8→H8→Option Int):=λh cs f=>∃ w,cs=[w]∧B0Q h w f
theorem C7m.mono:A1i C7m:=λ_ _ _ _ l ⟨w,e,c⟩=>⟨w,e,c.mono l⟩
instance:MonoC C7m:=⟨C7m.mono⟩
def B8u (h:PH) (w:Value) (f:(List Int)→(List Int)→Option Bool):Prop:=(w.oneCell'=true∧w.cells=[w].toArray)∧((∀ (x0:List Int) (x1:List Int),f x0 x1=none)∨∃ fid us vs,w=.func (.func fid) us.toArray vs.toArray∧∀ h',Le h h'→∀ {pv0:Value} {x0:List Int} (pr0:G9 (VI .i64) 1 h' pv0 x0) {pv1:Value} {x1:List Int} (pr1:G9 (VI .i64) 1 h' pv1 x1) {r_0:Bool} (H:f x0 x1=some r_0) (L:List E5),I7 prog fid (us++[pv0,pv1]++vs) h' L (λv h' L'=>v=.bool r_0∧L'=L))
theorem B8u.mono {h g:PH} {w:Value} {f:(List Int)→(List Int)→Option Bool} (c:B8u h w f) (l:Le h g):B8u g w f:=⟨c.1,c.2.imp id λ⟨fid,us,vs,e,k⟩=>⟨fid,us,vs,e,λh' l'=>k h' (l.trans l')⟩⟩
theorem B8u.u {h g:PH} {w:Value} {f:(List Int)→(List Int)→Option Bool} [l:LeI h g] (c:B8u h w f):B8u g w f:=c.mono l.le
theorem B8u.call {h:PH} {w:Value} {f:(List Int)→(List Int)→Option Bool} (c:B8u h w f) {pv0:Value} {x0:List Int} (pr0:G9 (VI .i64) 1 h pv0 x0) {pv1:Value} {x1:List Int} (pr1:G9 (VI .i64) 1 h pv1 x1) {r_0:Bool} (H:f x0 x1=some r_0):∃ fid us vs,w=.func (.func fid) us.toArray vs.toArray∧∀ L:List E5,I7 prog fid (us++[pv0,pv1]++vs) h L (λv h' L'=>v=.bool r_0∧L'=L):=by
 rcases c.2 with n | ⟨fid,us,vs,e,k⟩
 ·rw [n] at H; cases H
 ·exact ⟨fid,us,vs,e,k h (Le.refl h) pr0 pr1 H⟩
def D0J:Vr ((List Int)→(List Int)→Option Bool):=λh cs f=>∃ w,cs=[w]∧B8u h w f
theorem D0J.mono:A1i D0J:=λ_ _ _ _ l ⟨w,e,c⟩=>⟨w,e,c.mono l⟩
instance:MonoC D0J:=⟨D0J.mono⟩
def B1M:Vr Q5:=λh cs x=>∃ v1 v3,cs=[v1,v3]∧G9 I9 9 h v1 x.A7∧G9 L9 3 h v3 x.N7
theorem B1M.mono:A1i B1M:=λh g cs x l ⟨v1,v3,e,hS2,hS4⟩=>⟨v1,v3,e,G9.mono I9.mono hS2 l,G9.mono L9.mono hS4 l⟩
instance:MonoC B1M:=⟨B1M.mono⟩
def C5U:Vr Q5:=λh cs x=>∃ v1 v3,cs=[v1,v3]∧G9 I9 9 h v1 x.A7
def C4p:Vr D7:=λh cs x=>∃ v1,cs=[.string x.F8,.int .u8 x.P8,.int .i64 x.fA,.int .i64 x.fB,v1,.int .i64 x.fX,.int .i64 x.fY]
def M7:Vr C9:=λh cs x=>∃ v1 v3 v5 v7 v9,cs=[v1,v3,v5,v7,v9]∧G9 I1 7 h v1 x.C8∧G9 I9 9 h v3 x.A7∧G9 L9 3 h v5 x.N7∧G9 (VI .i64) 1 h v7 x.R7∧G9 I4 6 h v9 x.J9
theorem M7.mono:A1i M7:=λh g cs x l ⟨v1,v3,v5,v7,v9,e,hS2,hS4,hS6,hS8,hS10⟩=>⟨v1,v3,v5,v7,v9,e,G9.mono I1.mono hS2 l,G9.mono I9.mono hS4 l,G9.mono L9.mono hS6 l,G9.mono VI.mono hS8 l,G9.mono I4.mono hS10 l⟩
instance:MonoC M7:=⟨M7.mono⟩
def C1e:Vr C9:=λh cs x=>∃ v1 v3 v5 v7 v9,cs=[v1,v3,v5,v7,v9]∧G9 I1 7 h v1 x.C8∧G9 I9 9 h v3 x.A7∧G9 L9 3 h v5 x.N7∧G9 (VI .i64) 1 h v7 x.R7
def Z0:Vr R6:=λh cs x=>∃ v1 v3 v5 v7,cs=[v1,v3,v5,v7]∧G9 (VI .u8) 1 h v1 x.C8∧G9 (VI .u16) 1 h v3 x.A7∧G9 (VI .u8) 1 h v5 x.N7∧G9 (VI .u32) 1 h v7 x.J9
theorem Z0.mono:A1i Z0:=λh g cs x l ⟨v1,v3,v5,v7,e,hS2,hS4,hS6,hS8⟩=>⟨v1,v3,v5,v7,e,G9.mono VI.mono hS2 l,G9.mono VI.mono hS4 l,G9.mono VI.mono hS6 l,G9.mono VI.mono hS8 l⟩
instance:MonoC Z0:=⟨Z0.mono⟩
def A8Y (h:PH) (w:Value) (f:Int→Option Int):Prop:=(w.oneCell'=true∧w.cells=[w].toArray)∧((∀ (x0:Int),f x0=none)∨∃ fid us vs,w=.func (.func fid) us.toArray vs.toArray∧∀ h',Le h h'→∀ {x0:Int} {r_0:Int} (H:f x0=some r_0) (L:List E5),I7 prog fid (us++[.int .i64 x0]++vs) h' L (λv h' L'=>v=.int .i64 r_0∧L'=L))
theorem A8Y.mono {h g:PH} {w:Value} {f:Int→Option Int} (c:A8Y h w f) (l:Le h g):A8Y g w f:=⟨c.1,c.2.imp id λ⟨fid,us,vs,e,k⟩=>⟨fid,us,vs,e,λh' l'=>k h' (l.trans l')⟩⟩
theorem A8Y.u {h g:PH} {w:Value} {f:Int→Option Int} [l:LeI h g] (c:A8Y h w f):A8Y g w f:=c.mono l.le
theorem A8Y.call {h:PH} {w:Value} {f:Int→Option Int} (c:A8Y h w f) {x0:Int} {r_0:Int} (H:f x0=some r_0):∃ fid us vs,w=.func (.func fid) us.toArray vs.toArray∧∀ L:List E5,I7 prog fid (us++[.int .i64 x0]++vs) h L (λv h' L'=>v=.int .i64 r_0∧L'=L):=by
 rcases c.2 with n | ⟨fid,us,vs,e,k⟩
 ·rw [n] at H; cases H
 ·exact ⟨fid,us,vs,e,k h (Le.refl h) H⟩
def A4g:Vr (Int→Option Int):=λh cs f=>∃ w,cs=[w]∧A8Y h w f
theorem A4g.mono:A1i A4g:=λ_ _ _ _ l ⟨w,e,c⟩=>⟨w,e,c.mono l⟩
instance:MonoC A4g:=⟨A4g.mono⟩
theorem A4g.plain:Plain A4g:=λ_ _ _ ⟨w,e,c⟩=>by rw [e]; simp only [Sl.ones,c.1.1]; rfl
def A8I (h:PH) (w:Value) (f:Int→Int→Int→Int→Option Bool):Prop:=(w.oneCell'=true∧w.cells=[w].toArray)∧((∀ (x0:Int) (x1:Int) (x2:Int) (x3:Int),f x0 x1 x2 x3=none)∨∃ fid us vs,w=.func (.func fid) us.toArray vs.toArray∧∀ h',Le h h'→∀ {x0:Int} {x1:Int} {x2:Int} {x3:Int} {r_0:Bool} (H:f x0 x1 x2 x3=some r_0) (L:List E5),I7 prog fid (us++[.int .i64 x0,.int .i64 x1,.int .i64 x2,.int .i64 x3]++vs) h' L (λv h' L'=>v=.bool r_0∧L'=L))
theorem A8I.mono {h g:PH} {w:Value} {f:Int→Int→Int→Int→Option Bool} (c:A8I h w f) (l:Le h g):A8I g w f:=⟨c.1,c.2.imp id λ⟨fid,us,vs,e,k⟩=>⟨fid,us,vs,e,λh' l'=>k h' (l.trans l')⟩⟩
theorem A8I.u {h g:PH} {w:Value} {f:Int→Int→Int→Int→Option Bool} [l:LeI h g] (c:A8I h w f):A8I g w f:=c.mono l.le
theorem A8I.call {h:PH} {w:Value} {f:Int→Int→Int→Int→Option Bool} (c:A8I h w f) {x0:Int} {x1:Int} {x2:Int} {x3:Int} {r_0:Bool} (H:f x0 x1 x2 x3=some r_0):∃ fid us vs,w=.func (.func fid) us.toArray vs.toArray∧∀ L:List E5,I7 prog fid (us++[.int .i64 x0,.int .i64 x1,.int .i64 x2,.int .i64 x3]++vs) h L (λv h' L'=>v=.bool r_0∧L'=L):=by
 rcases c.2 with n | ⟨fid,us,vs,e,k⟩
 ·rw [n] at H; cases H
 ·exact ⟨fid,us,vs,e,k h (Le.refl h) H⟩
def C7f:Vr (Int→Int→Int→Int→Option Bool):=λh cs f=>∃ w,cs=[w]∧A8I h w f
theorem C7f.mono:A1i C7f:=λ_ _ _ _ l ⟨w,e,c⟩=>⟨w,e,c.mono l⟩
instance:MonoC C7f:=⟨C7f.mono⟩
def B1P (h:PH) (w:Value) (f:Int→Int→Option (List (Int→Option Int))):Prop:=(w.oneCell'=true∧w.cells=[w].toArray)∧((∀ (x0:Int) (x1:Int),f x0 x1=none)∨∃ fid us vs,w=.func (.func fid) us.toArray vs.toArray∧∀ h',Le h h'→∀ {x0:Int} {x1:Int} {r_0:List (Int→Option Int)} (H:f x0 x1=some r_0) (L:List E5),I7 prog fid (us++[.int .i64 x0,.int .i64 x1]++vs) h' L (λv h' L'=>L'=L∧G9 A4g 1 h' v r_0))
theorem B1P.mono {h g:PH} {w:Value} {f:Int→Int→Option (List (Int→Option Int))} (c:B1P h w f) (l:Le h g):B1P g w f:=⟨c.1,c.2.imp id λ⟨fid,us,vs,e,k⟩=>⟨fid,us,vs,e,λh' l'=>k h' (l.trans l')⟩⟩
theorem B1P.u {h g:PH} {w:Value} {f:Int→Int→Option (List (Int→Option Int))} [l:LeI h g] (c:B1P h w f):B1P g w f:=c.mono l.le
theorem B1P.call {h:PH} {w:Value} {f:Int→Int→Option (List (Int→Option Int))} (c:B1P h w f) {x0:Int} {x1:Int} {r_0:List (Int→Option Int)} (H:f x0 x1=some r_0):∃ fid us vs,w=.func (.func fid) us.toArray vs.toArray∧∀ L:List E5,I7 prog fid (us++[.int .i64 x0,.int .i64 x1]++vs) h L (λv h' L'=>L'=L∧G9 A4g 1 h' v r_0):=by
 rcases c.2 with n | ⟨fid,us,vs,e,k⟩
 ·rw [n] at H; cases H
 ·exact ⟨fid,us,vs,e,k h (Le.refl h) H⟩
def C7G:Vr (Int→Int→Option (List (Int→Option Int))):=λh cs f=>∃ w,cs=[w]∧B1P h w f
theorem C7G.mono:A1i C7G:=λ_ _ _ _ l ⟨w,e,c⟩=>⟨w,e,c.mono l⟩
instance:MonoC C7G:=⟨C7G.mono⟩
def B0P:Vr A1s:=λh cs x=>∃ v1 v3 v5 v7 v9,cs=[.string x.A7f,v1,v3,v5,v7,v9]∧B0r h v1 x.C6Q∧A8I h v3 x.W9∧A8I h v5 x.A0s∧B0r h v7 x.B9M∧B1P h v9 x.C4j
theorem B0P.mono:A1i B0P:=λh g cs x l ⟨v1,v3,v5,v7,v9,e,hF2,hF4,hF6,hF8,hF10⟩=>⟨v1,v3,v5,v7,v9,e,B0r.mono hF2 l,A8I.mono hF4 l,A8I.mono hF6 l,B0r.mono hF8 l,B1P.mono hF10 l⟩
instance:MonoC B0P:=⟨B0P.mono⟩
def A7S:Vr R9:=λh cs x=>∃ v1 v3,cs=[v1,v3]∧G9 I9 9 h v1 x.U6∧G9 L9 3 h v3 x.A0F
theorem A7S.mono:A1i A7S:=λh g cs x l ⟨v1,v3,e,hS2,hS4⟩=>⟨v1,v3,e,G9.mono I9.mono hS2 l,G9.mono L9.mono hS4 l⟩
instance:MonoC A7S:=⟨A7S.mono⟩
def A1q:Vr K8:=λh cs x=>∃ v1 v3 v5,cs=[v1,v3,v5]∧G9 I9 9 h v1 x.K4.U6∧G9 L9 3 h v3 x.K4.A0F∧Mp Value.string false (VI .i64) h v5 x.fat
theorem A1q.mono:A1i A1q:=λh g cs x l ⟨v1,v3,v5,e,hS2,hS4,hM6⟩=>⟨v1,v3,v5,e,G9.mono I9.mono hS2 l,G9.mono L9.mono hS4 l,Mp.mono VI.mono hM6 l⟩
instance:MonoC A1q:=⟨A1q.mono⟩
def B1T (h:PH) (w:Value) (f:H9→H9→Option Int):Prop:=(w.oneCell'=true∧w.cells=[w].toArray)∧((∀ (x0:H9) (x1:H9),f x0 x1=none)∨∃ fid us vs,w=.func (.func fid) us.toArray vs.toArray∧∀ h',Le h h'→∀ {pc0:List Value} {x0:H9} (pr0:L9 h' pc0 x0) {pc1:List Value} {x1:H9} (pr1:L9 h' pc1 x1) {r_0:Int} (H:f x0 x1=some r_0) (L:List E5),I7 prog fid (us++[.agg pc0.toArray,.agg pc1.toArray]++vs) h' L (λv h' L'=>v=.int .i64 r_0∧L'=L))
theorem B1T.mono {h g:PH} {w:Value} {f:H9→H9→Option Int} (c:B1T h w f) (l:Le h g):B1T g w f:=⟨c.1,c.2.imp id λ⟨fid,us,vs,e,k⟩=>⟨fid,us,vs,e,λh' l'=>k h' (l.trans l')⟩⟩
theorem B1T.u {h g:PH} {w:Value} {f:H9→H9→Option Int} [l:LeI h g] (c:B1T h w f):B1T g w f:=c.mono l.le
theorem B1T.call {h:PH} {w:Value} {f:H9→H9→Option Int} (c:B1T h w f) {pc0:List Value} {x0:H9} (pr0:L9 h pc0 x0) {pc1:List Value} {x1:H9} (pr1:L9 h pc1 x1) {r_0:Int} (H:f x0 x1=some r_0):∃ fid us vs,w=.func (.func fid) us.toArray vs.toArray∧∀ L:List E5,I7 prog fid (us++[.agg pc0.toArray,.agg pc1.toArray]++vs) h L (λv h' L'=>v=.int .i64 r_0∧L'=L):=by
 rcases c.2 with n | ⟨fid,us,vs,e,k⟩
 ·rw [n] at H; cases H
 ·exact ⟨fid,us,vs,e,k h (Le.refl h) pr0 pr1 H⟩
def C7h:Vr (H9→H9→Option Int):=λh cs f=>∃ w,cs=[w]∧B1T h w f
theorem C7h.mono:A1i C7h:=λ_ _ _ _ l ⟨w,e,c⟩=>⟨w,e,c.mono l⟩
instance:MonoC C7h:=⟨C7h.mono⟩
def K5:Vr H5:=λh cs x=>cs=[.string x.A7f,.int .u8 x.fa,.bool x.fb,.int .u8 x.ft,.bool x.fn,.int .i64 x.flo,.bool x.A5X,(fnV x.C5p)]
theorem K5.mono:A1i K5:=λh g cs x l e=>e
instance:MonoC K5:=⟨K5.mono⟩
def V3:Vr O0:=λh cs x=>∃ v1 v3 v5 v7 v9 v11 v13 v15 v17 v19 v21 v23 v25 v27,cs=[v1,v3,v5,v7,v9,v11,v13,v15,v17,v19,v21,v23,v25,v27]∧G9 I1 7 h v1 x.O9.C8∧G9 I9 9 h v3 x.O9.A7∧G9 L9 3 h v5 x.O9.N7∧G9 (VI .i64) 1 h v7 x.O9.R7∧G9 I4 6 h v9 x.O9.J9∧Mp (Value.int .u8) true K5 h v11 x.C0W∧G9 (VI .i64) 1 h v13 x.Z8∧G9 (VI .i64) 1 h v15 x.B7Z∧G9 VB 1 h v17 x.C5r∧G9 (VSl (VI .i64) 1) 1 h v19 x.W9∧G9 (VSl (VI .i64) 1) 1 h v21 x.A0s∧G9 (VMp (Value.int .i64) false (VI .i64)) 1 h v23 x.A3o∧G9 (VSl VB 1) 1 h v25 x.B1Z∧G9 (VSl (VI .u8) 1) 1 h v27 x.A0F
theorem V3.mono:A1i V3:=λh g cs x l ⟨v1,v3,v5,v7,v9,v11,v13,v15,v17,v19,v21,v23,v25,v27,e,hS2,hS4,hS6,hS8,hS10,hM12,hS14,hS16,hS18,hS20,hS22,hS24,hS26,hS28⟩=>⟨v1,v3,v5,v7,v9,v11,v13,v15,v17,v19,v21,v23,v25,v27,e,G9.mono I1.mono hS2 l,G9.mono I9.mono hS4 l,G9.mono L9.mono hS6 l,G9.mono VI.mono hS8 l,G9.mono I4.mono hS10 l,Mp.mono K5.mono hM12 l,G9.mono VI.mono hS14 l,G9.mono VI.mono hS16 l,G9.mono VB.mono hS18 l,G9.mono (VSl.mono VI.mono) hS20 l,G9.mono (VSl.mono VI.mono) hS22 l,G9.mono (VMp.mono VI.mono) hS24 l,G9.mono (VSl.mono VB.mono) hS26 l,G9.mono (VSl.mono VI.mono) hS28 l⟩
instance:MonoC V3:=⟨V3.mono⟩
def M4:Vr F5:=λh cs x=>∃ v1 v3 v5,cs=[v1,v3,v5]∧Pt V3 h v1 x.F4∧G9 (VI .i64) 1 h v3 x.Q4∧G9 (VI .i64) 1 h v5 x.B3L
theorem M4.mono:A1i M4:=λh g cs x l ⟨v1,v3,v5,e,hP2,hS4,hS6⟩=>⟨v1,v3,v5,e,Pt.mono V3.mono hP2 l,G9.mono VI.mono hS4 l,G9.mono VI.mono hS6 l⟩
instance:MonoC M4:=⟨M4.mono⟩
def V5 {σ:Type} (R:σ→PH→List E5→Prop) (h:PH) (w:Value) (f:σ→Int→(List Int)→Option σ):Prop:=(w.oneCell'=true∧w.cells=[w].toArray)∧(∀ s h h' La,Le h h'→R s h La→R s h' La)∧∀ h',Le h h'→∀ {x0:Int} {pv1:Value} {x1:List Int} (pr1:G9 (VI .i64) 1 h' pv1 x1) {s s':σ} {La:List E5}  (hR:R s h' La) (H:f s x0 x1=some s') (As L:List E5),Yld prog w [.int .i64 x0,pv1] h' (As++(La++L)) (λv h2 L'=>∃ La',v=.tuple #[]∧L'=As++(La'++L)∧R s' h2 La')
theorem V5.mono {σ:Type} {R:σ→PH→List E5→Prop} {h g:PH} {w:Value} {f:σ→Int→(List Int)→Option σ} (c:V5 R h w f) (l:Le h g):V5 R g w f:=⟨c.1,c.2.1,λh' l'=>c.2.2 h' (l.trans l')⟩
theorem V5.u {σ:Type} {R:σ→PH→List E5→Prop} {h g:PH} {w:Value} {f:σ→Int→(List Int)→Option σ} [l:LeI h g] (c:V5 R h w f):V5 R g w f:=c.mono l.le
theorem V5.call {σ:Type} {R:σ→PH→List E5→Prop} {h:PH} {w:Value} {f:σ→Int→(List Int)→Option σ} (c:V5 R h w f):∀ {x0:Int} {pv1:Value} {x1:List Int} (pr1:G9 (VI .i64) 1 h pv1 x1) {s s':σ} {La:List E5}  (hR:R s h La) (H:f s x0 x1=some s') (As L:List E5),Yld prog w [.int .i64 x0,pv1] h (As++(La++L)) (λv h2 L'=>∃ La',v=.tuple #[]∧L'=As++(La'++L)∧R s' h2 La'):=λpr1=>λhR H As L=>c.2.2 h (Le.refl h) pr1 hR H As L
def B0c (h:PH) (w:Value) (f:Int→Int→Option Bool):Prop:=(w.oneCell'=true∧w.cells=[w].toArray)∧((∀ (x0:Int) (x1:Int),f x0 x1=none)∨∃ fid us vs,w=.func (.func fid) us.toArray vs.toArray∧∀ h',Le h h'→∀ {x0:Int} {x1:Int} {r_0:Bool} (H:f x0 x1=some r_0) (L:List E5),I7 prog fid (us++[.int .i64 x0,.int .i64 x1]++vs) h' L (λv h' L'=>v=.bool r_0∧L'=L))
theorem B0c.mono {h g:PH} {w:Value} {f:Int→Int→Option Bool} (c:B0c h w f) (l:Le h g):B0c g w f:=⟨c.1,c.2.imp id λ⟨fid,us,vs,e,k⟩=>⟨fid,us,vs,e,λh' l'=>k h' (l.trans l')⟩⟩
theorem B0c.u {h g:PH} {w:Value} {f:Int→Int→Option Bool} [l:LeI h g] (c:B0c h w f):B0c g w f:=c.mono l.le
theorem B0c.call {h:PH} {w:Value} {f:Int→Int→Option Bool} (c:B0c h w f) {x0:Int} {x1:Int} {r_0:Bool} (H:f x0 x1=some r_0):∃ fid us vs,w=.func (.func fid) us.toArray vs.toArray∧∀ L:List E5,I7 prog fid (us++[.int .i64 x0,.int .i64 x1]++vs) h L (λv h' L'=>v=.bool r_0∧L'=L):=by
 rcases c.2 with n | ⟨fid,us,vs,e,k⟩
 ·rw [n] at H; cases H
 ·exact ⟨fid,us,vs,e,k h (Le.refl h) H⟩
def C7w:Vr (Int→Int→Option Bool):=λh cs f=>∃ w,cs=[w]∧B0c h w f
theorem C7w.mono:A1i C7w:=λ_ _ _ _ l ⟨w,e,c⟩=>⟨w,e,c.mono l⟩
instance:MonoC C7w:=⟨C7w.mono⟩
def B1A {σ:Type} (R:σ→PH→List E5→Prop) (h:PH) (w:Value) (f:σ→(List Int)→Option σ):Prop:=(w.oneCell'=true∧w.cells=[w].toArray)∧(∀ s h h' La,Le h h'→R s h La→R s h' La)∧∀ h',Le h h'→∀ {pv0:Value} {x0:List Int} (pr0:G9 (VI .i64) 1 h' pv0 x0) {s s':σ} {La:List E5}  (hR:R s h' La) (H:f s x0=some s') (As L:List E5),Yld prog w [pv0] h' (As++(La++L)) (λv h2 L'=>∃ La',v=.tuple #[]∧L'=As++(La'++L)∧R s' h2 La')
theorem B1A.mono {σ:Type} {R:σ→PH→List E5→Prop} {h g:PH} {w:Value} {f:σ→(List Int)→Option σ} (c:B1A R h w f) (l:Le h g):B1A R g w f:=⟨c.1,c.2.1,λh' l'=>c.2.2 h' (l.trans l')⟩
theorem B1A.u {σ:Type} {R:σ→PH→List E5→Prop} {h g:PH} {w:Value} {f:σ→(List Int)→Option σ} [l:LeI h g] (c:B1A R h w f):B1A R g w f:=c.mono l.le
theorem B1A.call {σ:Type} {R:σ→PH→List E5→Prop} {h:PH} {w:Value} {f:σ→(List Int)→Option σ} (c:B1A R h w f):∀ {pv0:Value} {x0:List Int} (pr0:G9 (VI .i64) 1 h pv0 x0) {s s':σ} {La:List E5}  (hR:R s h La) (H:f s x0=some s') (As L:List E5),Yld prog w [pv0] h (As++(La++L)) (λv h2 L'=>∃ La',v=.tuple #[]∧L'=As++(La'++L)∧R s' h2 La'):=λpr0=>λhR H As L=>c.2.2 h (Le.refl h) pr0 hR H As L
def B2X (h:PH) (w:Value) (f:F5→Int→Option Int):Prop:=(w.oneCell'=true∧w.cells=[w].toArray)∧((∀ (x0:F5) (x1:Int),f x0 x1=none)∨∃ fid us vs,w=.func (.func fid) us.toArray vs.toArray∧∀ h',Le h h'→∀ {pv0:Value} {x0:F5} (pr0:Pt M4 h' pv0 x0) {x1:Int} {r_0:Int} (H:f x0 x1=some r_0) (L:List E5),I7 prog fid (us++[pv0,.int .i64 x1]++vs) h' L (λv h' L'=>v=.int .i64 r_0∧L'=L))
theorem B2X.mono {h g:PH} {w:Value} {f:F5→Int→Option Int} (c:B2X h w f) (l:Le h g):B2X g w f:=⟨c.1,c.2.imp id λ⟨fid,us,vs,e,k⟩=>⟨fid,us,vs,e,λh' l'=>k h' (l.trans l')⟩⟩
theorem B2X.u {h g:PH} {w:Value} {f:F5→Int→Option Int} [l:LeI h g] (c:B2X h w f):B2X g w f:=c.mono l.le
theorem B2X.call {h:PH} {w:Value} {f:F5→Int→Option Int} (c:B2X h w f) {pv0:Value} {x0:F5} (pr0:Pt M4 h pv0 x0) {x1:Int} {r_0:Int} (H:f x0 x1=some r_0):∃ fid us vs,w=.func (.func fid) us.toArray vs.toArray∧∀ L:List E5,I7 prog fid (us++[pv0,.int .i64 x1]++vs) h L (λv h' L'=>v=.int .i64 r_0∧L'=L):=by
 rcases c.2 with n | ⟨fid,us,vs,e,k⟩
 ·rw [n] at H; cases H
 ·exact ⟨fid,us,vs,e,k h (Le.refl h) pr0 H⟩
def C7u:Vr (F5→Int→Option Int):=λh cs f=>∃ w,cs=[w]∧B2X h w f
theorem C7u.mono:A1i C7u:=λ_ _ _ _ l ⟨w,e,c⟩=>⟨w,e,c.mono l⟩
instance:MonoC C7u:=⟨C7u.mono⟩
def C0e {σ:Type} (R:σ→PH→List E5→Prop) (h:PH) (w:Value) (f:σ→(List Int)→Option (σ×Bool)):Prop:=(w.oneCell'=true∧w.cells=[w].toArray)∧(∀ s h h' La,Le h h'→R s h La→R s h' La)∧∀ h',Le h h'→∀ {pv0:Value} {x0:List Int} (pr0:G9 (VI .i64) 1 h' pv0 x0) {s s':σ} {La:List E5} {r_0:Bool} (hR:R s h' La) (H:f s x0=some (s',r_0)) (As L:List E5),Yld prog w [pv0] h' (As++(La++L)) (λv h2 L'=>∃ La',v=.bool r_0∧L'=As++(La'++L)∧R s' h2 La')
theorem C0e.mono {σ:Type} {R:σ→PH→List E5→Prop} {h g:PH} {w:Value} {f:σ→(List Int)→Option (σ×Bool)} (c:C0e R h w f) (l:Le h g):C0e R g w f:=⟨c.1,c.2.1,λh' l'=>c.2.2 h' (l.trans l')⟩
theorem C0e.u {σ:Type} {R:σ→PH→List E5→Prop} {h g:PH} {w:Value} {f:σ→(List Int)→Option (σ×Bool)} [l:LeI h g] (c:C0e R h w f):C0e R g w f:=c.mono l.le
theorem C0e.call {σ:Type} {R:σ→PH→List E5→Prop} {h:PH} {w:Value} {f:σ→(List Int)→Option (σ×Bool)} (c:C0e R h w f):∀ {pv0:Value} {x0:List Int} (pr0:G9 (VI .i64) 1 h pv0 x0) {s s':σ} {La:List E5} {r_0:Bool} (hR:R s h La) (H:f s x0=some (s',r_0)) (As L:List E5),Yld prog w [pv0] h (As++(La++L)) (λv h2 L'=>∃ La',v=.bool r_0∧L'=As++(La'++L)∧R s' h2 La'):=λpr0=>λhR H As L=>c.2.2 h (Le.refl h) pr0 hR H As L
def Q0:Vr M3:=λh cs x=>∃ v1 v3 v5 v7 v9 v11 v13 v15 v17,cs=[v1,v3,v5,v7,v9,v11,v13,v15,v17]∧Pt V3 h v1 x.F4∧G9 I1 7 h v3 x.fp.C8∧G9 I9 9 h v5 x.fp.A7∧G9 L9 3 h v7 x.fp.N7∧G9 (VI .i64) 1 h v9 x.fp.R7∧G9 I4 6 h v11 x.fp.J9∧G9 (VI .i64) 1 h v13 x.Z8∧G9 (VI .i64) 1 h v15 x.B7Y∧G9 (VSl (VSl (VI .i64) 1) 1) 1 h v17 x.B2D
theorem Q0.mono:A1i Q0:=λh g cs x l ⟨v1,v3,v5,v7,v9,v11,v13,v15,v17,e,hP2,hS4,hS6,hS8,hS10,hS12,hS14,hS16,hS18⟩=>⟨v1,v3,v5,v7,v9,v11,v13,v15,v17,e,Pt.mono V3.mono hP2 l,G9.mono I1.mono hS4 l,G9.mono I9.mono hS6 l,G9.mono L9.mono hS8 l,G9.mono VI.mono hS10 l,G9.mono I4.mono hS12 l,G9.mono VI.mono hS14 l,G9.mono VI.mono hS16 l,G9.mono (VSl.mono (VSl.mono VI.mono)) hS18 l⟩
instance:MonoC Q0:=⟨Q0.mono⟩
def A7h {σ:Type} (R:σ→PH→List E5→Prop) (h:PH) (w:Value) (f:σ→(List Int)→Option (σ×Bool)):Prop:=(w.oneCell'=true∧w.cells=[w].toArray)∧(∀ s h h' La,Le h h'→R s h La→R s h' La)∧∀ h',Le h h'→∀ {pv0:Value} {pcs0:List (List Value)} {x0:List Int} (pr0:A8 (VI .i64) h' pcs0 x0) {s s':σ} {La:List E5} {r_0:Bool} (hR:R s h' La) (H:f s x0=some (s',r_0)) (As L:List E5),Yld prog w [pv0] h' (F3 3 1 pv0 pcs0::(As++(La++L))) (λv h2 L'=>∃ La' ls,v=.bool r_0∧L'=F3 3 1 pv0 ls::(As++(La'++L))∧R s' h2 La'∧A8 (VI .i64) h2 ls x0)
theorem A7h.mono {σ:Type} {R:σ→PH→List E5→Prop} {h g:PH} {w:Value} {f:σ→(List Int)→Option (σ×Bool)} (c:A7h R h w f) (l:Le h g):A7h R g w f:=⟨c.1,c.2.1,λh' l'=>c.2.2 h' (l.trans l')⟩
theorem A7h.u {σ:Type} {R:σ→PH→List E5→Prop} {h g:PH} {w:Value} {f:σ→(List Int)→Option (σ×Bool)} [l:LeI h g] (c:A7h R h w f):A7h R g w f:=c.mono l.le
theorem A7h.call {σ:Type} {R:σ→PH→List E5→Prop} {h:PH} {w:Value} {f:σ→(List Int)→Option (σ×Bool)} (c:A7h R h w f):∀ {pv0:Value} {pcs0:List (List Value)} {x0:List Int} (pr0:A8 (VI .i64) h pcs0 x0) {s s':σ} {La:List E5} {r_0:Bool} (hR:R s h La) (H:f s x0=some (s',r_0)) (As L:List E5),Yld prog w [pv0] h (F3 3 1 pv0 pcs0::(As++(La++L))) (λv h2 L'=>∃ La' ls,v=.bool r_0∧L'=F3 3 1 pv0 ls::(As++(La'++L))∧R s' h2 La'∧A8 (VI .i64) h2 ls x0):=λpr0=>λhR H As L=>c.2.2 h (Le.refl h) pr0 hR H As L
def A3B:Vr N9:=λh cs x=>cs=[.int .u8 x.F9,.int .i64 x.fN]
theorem A3B.mono:A1i A3B:=λh g cs x l e=>e
instance:MonoC A3B:=⟨A3B.mono⟩
def A7N:Vr Q6:=λh cs x=>∃ v1 v3 v5,cs=[v1,.int .i64 x.A7C,v3,.int .i64 x.fat,v5]∧Pt Q0 h v1 x.A9J∧G9 A3B 2 h v3 x.A3o∧G9 (VI .i64) 1 h v5 x.Q4
theorem A7N.mono:A1i A7N:=λh g cs x l ⟨v1,v3,v5,e,hP2,hS4,hS6⟩=>⟨v1,v3,v5,e,Pt.mono Q0.mono hP2 l,G9.mono A3B.mono hS4 l,G9.mono VI.mono hS6 l⟩
instance:MonoC A7N:=⟨A7N.mono⟩
def A9p:Vr Y9:=λh cs x=>cs=[.int .i64 x.fat,.int .i64 x.fe]
theorem A9p.mono:A1i A9p:=λh g cs x l e=>e
instance:MonoC A9p:=⟨A9p.mono⟩
def B2H:Vr A9v:=λh cs x=>∃ v1,cs=[v1,.int .i64 x.A3v]∧G9 (VI .i64) 1 h v1 x.C9B
theorem B2H.mono:A1i B2H:=λh g cs x l ⟨v1,e,hS2⟩=>⟨v1,e,G9.mono VI.mono hS2 l⟩
instance:MonoC B2H:=⟨B2H.mono⟩
end Go.Dm
