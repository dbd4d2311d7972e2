import Derived.Test.YtdbhilnjelhcpaaGreatChecked
import Derived.Test.YtdbhilnjelhcpaaGreatDa
/- How values stand for data. -/
set_option maxRecDepth 1000000
set_option maxHeartbeats 40000000
set_option linter.unusedVariables false
set_option linter.unusedSimpArgs false
set_option linter.unnecessarySimpa false
open Go Go.Proofs Go.Sl
namespace Go.Dm
def CF138 (h : PH) (w : Value) (f : Int→Option Bool) : Prop:=(w.oneCell' = true∧w.cells = [w].toArray)∧((∀ (x0 : Int),f x0 = none)∨∃ fid us vs,w = .func (.func fid) us.toArray vs.toArray∧∀ h',Le h h'→∀ {x0 : Int} {r_0 : Bool} (H : f x0 = some r_0) (L : List HProp),FnS Tryz.prog fid (us ++ [.int .i64 x0] ++ vs) h' L (fun v h' L'=>v = .bool r_0∧L' = L))
theorem CF138.mono {h g : PH} {w : Value} {f : Int→Option Bool} (c : CF138 h w f) (l : Le h g) : CF138 g w f:=⟨c.1,c.2.imp id fun ⟨fid,us,vs,e,k⟩=>⟨fid,us,vs,e,fun h' l'=>k h' (l.trans l')⟩⟩
theorem CF138.call {h : PH} {w : Value} {f : Int→Option Bool} (c : CF138 h w f) {x0 : Int} {r_0 : Bool} (H : f x0 = some r_0) : ∃ fid us vs,w = .func (.func fid) us.toArray vs.toArray∧∀ L : List HProp,FnS Tryz.prog fid (us ++ [.int .i64 x0] ++ vs) h L (fun v h' L'=>v = .bool r_0∧L' = L):=by
  rcases c.2 with n | ⟨fid,us,vs,e,k⟩
  · rw [n] at H; cases H
  · exact ⟨fid,us,vs,e,k h (Le.refl h) H⟩
def VF138 : Vr (Int→Option Bool):=fun h cs f=>∃ w,cs = [w]∧CF138 h w f
theorem VF138.mono : Mono VF138:=fun _ _ _ _ l ⟨w,e,c⟩=>⟨w,e,c.mono l⟩
theorem VF138.plain : Plain VF138:=fun _ _ _ ⟨w,e,c⟩=>by rw [e]; simp only [Sl.ones,c.1.1]; rfl
def VapiTable : Vr apiTable:=fun h cs x=>∃ v1,cs = [.string x.fName,.int .u8 x.fShape,.int .i64 x.fA,.int .i64 x.fB,v1,.int .i64 x.fX,.int .i64 x.fY]∧Slc (VI .i64) 1 h v1 x.fOpen
theorem VapiTable.mono : Mono VapiTable:=fun h g cs x l ⟨v1,e,hS2⟩=>⟨v1,e,Slc.mono VI.mono hS2 l⟩
theorem VapiTable.plain : Plain VapiTable:=fun h cs x ⟨v1,e,hS2⟩=>by rw [e]; (simp only [Sl.ones,fnV_one,Slc.one hS2,Bool.and_true,Bool.true_and]) <;> rfl
def CF249 (h : PH) (w : Value) (f : apiTable→Option Bool) : Prop:=(w.oneCell' = true∧w.cells = [w].toArray)∧((∀ (x0 : apiTable),f x0 = none)∨∃ fid us vs,w = .func (.func fid) us.toArray vs.toArray∧∀ h',Le h h'→∀ {pc0 : List Value} {x0 : apiTable} (pr0 : VapiTable h' pc0 x0) {r_0 : Bool} (H : f x0 = some r_0) (L : List HProp),FnS Tryz.prog fid (us ++ [.agg pc0.toArray] ++ vs) h' L (fun v h' L'=>v = .bool r_0∧L' = L))
theorem CF249.mono {h g : PH} {w : Value} {f : apiTable→Option Bool} (c : CF249 h w f) (l : Le h g) : CF249 g w f:=⟨c.1,c.2.imp id fun ⟨fid,us,vs,e,k⟩=>⟨fid,us,vs,e,fun h' l'=>k h' (l.trans l')⟩⟩
theorem CF249.call {h : PH} {w : Value} {f : apiTable→Option Bool} (c : CF249 h w f) {pc0 : List Value} {x0 : apiTable} (pr0 : VapiTable h pc0 x0) {r_0 : Bool} (H : f x0 = some r_0) : ∃ fid us vs,w = .func (.func fid) us.toArray vs.toArray∧∀ L : List HProp,FnS Tryz.prog fid (us ++ [.agg pc0.toArray] ++ vs) h L (fun v h' L'=>v = .bool r_0∧L' = L):=by
  rcases c.2 with n | ⟨fid,us,vs,e,k⟩
  · rw [n] at H; cases H
  · exact ⟨fid,us,vs,e,k h (Le.refl h) pr0 H⟩
def VF249 : Vr (apiTable→Option Bool):=fun h cs f=>∃ w,cs = [w]∧CF249 h w f
theorem VF249.mono : Mono VF249:=fun _ _ _ _ l ⟨w,e,c⟩=>⟨w,e,c.mono l⟩
theorem VF249.plain : Plain VF249:=fun _ _ _ ⟨w,e,c⟩=>by rw [e]; simp only [Sl.ones,c.1.1]; rfl
def VapiGuest : Vr apiGuest:=fun h cs x=>∃ v1,cs = [.string x.fName,.string x.fRank,.string x.fCourt,.int .i64 x.fSince,.int .i64 x.fSide,.string x.fDiet,.bool x.fHost,.bool x.fAccess,v1]∧Slc VS 1 h v1 x.fTongues
theorem VapiGuest.mono : Mono VapiGuest:=fun h g cs x l ⟨v1,e,hS2⟩=>⟨v1,e,Slc.mono VS.mono hS2 l⟩
theorem VapiGuest.plain : Plain VapiGuest:=fun h cs x ⟨v1,e,hS2⟩=>by rw [e]; (simp only [Sl.ones,fnV_one,Slc.one hS2,Bool.and_true,Bool.true_and]) <;> rfl
def CF251 (h : PH) (w : Value) (f : apiGuest→Option Bool) : Prop:=(w.oneCell' = true∧w.cells = [w].toArray)∧((∀ (x0 : apiGuest),f x0 = none)∨∃ fid us vs,w = .func (.func fid) us.toArray vs.toArray∧∀ h',Le h h'→∀ {pc0 : List Value} {x0 : apiGuest} (pr0 : VapiGuest h' pc0 x0) {r_0 : Bool} (H : f x0 = some r_0) (L : List HProp),FnS Tryz.prog fid (us ++ [.agg pc0.toArray] ++ vs) h' L (fun v h' L'=>v = .bool r_0∧L' = L))
theorem CF251.mono {h g : PH} {w : Value} {f : apiGuest→Option Bool} (c : CF251 h w f) (l : Le h g) : CF251 g w f:=⟨c.1,c.2.imp id fun ⟨fid,us,vs,e,k⟩=>⟨fid,us,vs,e,fun h' l'=>k h' (l.trans l')⟩⟩
theorem CF251.call {h : PH} {w : Value} {f : apiGuest→Option Bool} (c : CF251 h w f) {pc0 : List Value} {x0 : apiGuest} (pr0 : VapiGuest h pc0 x0) {r_0 : Bool} (H : f x0 = some r_0) : ∃ fid us vs,w = .func (.func fid) us.toArray vs.toArray∧∀ L : List HProp,FnS Tryz.prog fid (us ++ [.agg pc0.toArray] ++ vs) h L (fun v h' L'=>v = .bool r_0∧L' = L):=by
  rcases c.2 with n | ⟨fid,us,vs,e,k⟩
  · rw [n] at H; cases H
  · exact ⟨fid,us,vs,e,k h (Le.refl h) pr0 H⟩
def VF251 : Vr (apiGuest→Option Bool):=fun h cs f=>∃ w,cs = [w]∧CF251 h w f
theorem VF251.mono : Mono VF251:=fun _ _ _ _ l ⟨w,e,c⟩=>⟨w,e,c.mono l⟩
theorem VF251.plain : Plain VF251:=fun _ _ _ ⟨w,e,c⟩=>by rw [e]; simp only [Sl.ones,c.1.1]; rfl
def CF188 (h : PH) (w : Value) (f : ByteArray→Option Bool) : Prop:=(w.oneCell' = true∧w.cells = [w].toArray)∧((∀ (x0 : ByteArray),f x0 = none)∨∃ fid us vs,w = .func (.func fid) us.toArray vs.toArray∧∀ h',Le h h'→∀ {x0 : ByteArray} {r_0 : Bool} (H : f x0 = some r_0) (L : List HProp),FnS Tryz.prog fid (us ++ [.string x0] ++ vs) h' L (fun v h' L'=>v = .bool r_0∧L' = L))
theorem CF188.mono {h g : PH} {w : Value} {f : ByteArray→Option Bool} (c : CF188 h w f) (l : Le h g) : CF188 g w f:=⟨c.1,c.2.imp id fun ⟨fid,us,vs,e,k⟩=>⟨fid,us,vs,e,fun h' l'=>k h' (l.trans l')⟩⟩
theorem CF188.call {h : PH} {w : Value} {f : ByteArray→Option Bool} (c : CF188 h w f) {x0 : ByteArray} {r_0 : Bool} (H : f x0 = some r_0) : ∃ fid us vs,w = .func (.func fid) us.toArray vs.toArray∧∀ L : List HProp,FnS Tryz.prog fid (us ++ [.string x0] ++ vs) h L (fun v h' L'=>v = .bool r_0∧L' = L):=by
  rcases c.2 with n | ⟨fid,us,vs,e,k⟩
  · rw [n] at H; cases H
  · exact ⟨fid,us,vs,e,k h (Le.refl h) H⟩
def VF188 : Vr (ByteArray→Option Bool):=fun h cs f=>∃ w,cs = [w]∧CF188 h w f
theorem VF188.mono : Mono VF188:=fun _ _ _ _ l ⟨w,e,c⟩=>⟨w,e,c.mono l⟩
theorem VF188.plain : Plain VF188:=fun _ _ _ ⟨w,e,c⟩=>by rw [e]; simp only [Sl.ones,c.1.1]; rfl
def VapiTie : Vr apiTie:=fun h cs x=>cs = [.string x.fA,.string x.fB,.int .u8 x.fKind]
theorem VapiTie.mono : Mono VapiTie:=fun h g cs x l e=>e
theorem VapiTie.plain : Plain VapiTie:=fun h cs x e=>by rw [show cs = _ from e]; rfl
def VapiRule : Vr apiRule:=fun h cs x=>cs = [.int .u8 x.fKind,.int .i64 x.fWeight,.string x.fA,.string x.fB,.string x.fTable,.int .i64 x.fN]
theorem VapiRule.mono : Mono VapiRule:=fun h g cs x l e=>e
theorem VapiRule.plain : Plain VapiRule:=fun h cs x e=>by rw [show cs = _ from e]; rfl
def CF36 (h : PH) (w : Value) (f : Int→Int→Option Int) : Prop:=(w.oneCell' = true∧w.cells = [w].toArray)∧((∀ (x0 : Int) (x1 : Int),f x0 x1 = none)∨∃ fid us vs,w = .func (.func fid) us.toArray vs.toArray∧∀ h',Le h h'→∀ {x0 : Int} {x1 : Int} {r_0 : Int} (H : f x0 x1 = some r_0) (L : List HProp),FnS Tryz.prog fid (us ++ [.int .i64 x0,.int .i64 x1] ++ vs) h' L (fun v h' L'=>v = .int .i64 r_0∧L' = L))
theorem CF36.mono {h g : PH} {w : Value} {f : Int→Int→Option Int} (c : CF36 h w f) (l : Le h g) : CF36 g w f:=⟨c.1,c.2.imp id fun ⟨fid,us,vs,e,k⟩=>⟨fid,us,vs,e,fun h' l'=>k h' (l.trans l')⟩⟩
theorem CF36.call {h : PH} {w : Value} {f : Int→Int→Option Int} (c : CF36 h w f) {x0 : Int} {x1 : Int} {r_0 : Int} (H : f x0 x1 = some r_0) : ∃ fid us vs,w = .func (.func fid) us.toArray vs.toArray∧∀ L : List HProp,FnS Tryz.prog fid (us ++ [.int .i64 x0,.int .i64 x1] ++ vs) h L (fun v h' L'=>v = .int .i64 r_0∧L' = L):=by
  rcases c.2 with n | ⟨fid,us,vs,e,k⟩
  · rw [n] at H; cases H
  · exact ⟨fid,us,vs,e,k h (Le.refl h) H⟩
def VF36 : Vr (Int→Int→Option Int):=fun h cs f=>∃ w,cs = [w]∧CF36 h w f
theorem VF36.mono : Mono VF36:=fun _ _ _ _ l ⟨w,e,c⟩=>⟨w,e,c.mono l⟩
theorem VF36.plain : Plain VF36:=fun _ _ _ ⟨w,e,c⟩=>by rw [e]; simp only [Sl.ones,c.1.1]; rfl
def CF240 (h : PH) (w : Value) (f : (List Int)→(List Int)→Option Int) : Prop:=(w.oneCell' = true∧w.cells = [w].toArray)∧((∀ (x0 : List Int) (x1 : List Int),f x0 x1 = none)∨∃ fid us vs,w = .func (.func fid) us.toArray vs.toArray∧∀ h',Le h h'→∀ {pv0 : Value} {x0 : List Int} (pr0 : Slc (VI .i64) 1 h' pv0 x0) {pv1 : Value} {x1 : List Int} (pr1 : Slc (VI .i64) 1 h' pv1 x1) {r_0 : Int} (H : f x0 x1 = some r_0) (L : List HProp),FnS Tryz.prog fid (us ++ [pv0,pv1] ++ vs) h' L (fun v h' L'=>v = .int .i64 r_0∧L' = L))
theorem CF240.mono {h g : PH} {w : Value} {f : (List Int)→(List Int)→Option Int} (c : CF240 h w f) (l : Le h g) : CF240 g w f:=⟨c.1,c.2.imp id fun ⟨fid,us,vs,e,k⟩=>⟨fid,us,vs,e,fun h' l'=>k h' (l.trans l')⟩⟩
theorem CF240.call {h : PH} {w : Value} {f : (List Int)→(List Int)→Option Int} (c : CF240 h w f) {pv0 : Value} {x0 : List Int} (pr0 : Slc (VI .i64) 1 h pv0 x0) {pv1 : Value} {x1 : List Int} (pr1 : Slc (VI .i64) 1 h pv1 x1) {r_0 : Int} (H : f x0 x1 = some r_0) : ∃ fid us vs,w = .func (.func fid) us.toArray vs.toArray∧∀ L : List HProp,FnS Tryz.prog fid (us ++ [pv0,pv1] ++ vs) h L (fun v h' L'=>v = .int .i64 r_0∧L' = L):=by
  rcases c.2 with n | ⟨fid,us,vs,e,k⟩
  · rw [n] at H; cases H
  · exact ⟨fid,us,vs,e,k h (Le.refl h) pr0 pr1 H⟩
def VF240 : Vr ((List Int)→(List Int)→Option Int):=fun h cs f=>∃ w,cs = [w]∧CF240 h w f
theorem VF240.mono : Mono VF240:=fun _ _ _ _ l ⟨w,e,c⟩=>⟨w,e,c.mono l⟩
theorem VF240.plain : Plain VF240:=fun _ _ _ ⟨w,e,c⟩=>by rw [e]; simp only [Sl.ones,c.1.1]; rfl
def VsearchBar : Vr searchBar:=fun h cs x=>cs = [.int .i64 x.fCost,.int .i64 x.fClasses,.int .i64 x.fPlans]
theorem VsearchBar.mono : Mono VsearchBar:=fun h g cs x l e=>e
theorem VsearchBar.plain : Plain VsearchBar:=fun h cs x e=>by rw [show cs = _ from e]; rfl
def CF111 (h : PH) (w : Value) (f : searchBar→searchBar→Option Int) : Prop:=(w.oneCell' = true∧w.cells = [w].toArray)∧((∀ (x0 : searchBar) (x1 : searchBar),f x0 x1 = none)∨∃ fid us vs,w = .func (.func fid) us.toArray vs.toArray∧∀ h',Le h h'→∀ {pc0 : List Value} {x0 : searchBar} (pr0 : VsearchBar h' pc0 x0) {pc1 : List Value} {x1 : searchBar} (pr1 : VsearchBar h' pc1 x1) {r_0 : Int} (H : f x0 x1 = some r_0) (L : List HProp),FnS Tryz.prog fid (us ++ [.agg pc0.toArray,.agg pc1.toArray] ++ vs) h' L (fun v h' L'=>v = .int .i64 r_0∧L' = L))
theorem CF111.mono {h g : PH} {w : Value} {f : searchBar→searchBar→Option Int} (c : CF111 h w f) (l : Le h g) : CF111 g w f:=⟨c.1,c.2.imp id fun ⟨fid,us,vs,e,k⟩=>⟨fid,us,vs,e,fun h' l'=>k h' (l.trans l')⟩⟩
theorem CF111.call {h : PH} {w : Value} {f : searchBar→searchBar→Option Int} (c : CF111 h w f) {pc0 : List Value} {x0 : searchBar} (pr0 : VsearchBar h pc0 x0) {pc1 : List Value} {x1 : searchBar} (pr1 : VsearchBar h pc1 x1) {r_0 : Int} (H : f x0 x1 = some r_0) : ∃ fid us vs,w = .func (.func fid) us.toArray vs.toArray∧∀ L : List HProp,FnS Tryz.prog fid (us ++ [.agg pc0.toArray,.agg pc1.toArray] ++ vs) h L (fun v h' L'=>v = .int .i64 r_0∧L' = L):=by
  rcases c.2 with n | ⟨fid,us,vs,e,k⟩
  · rw [n] at H; cases H
  · exact ⟨fid,us,vs,e,k h (Le.refl h) pr0 pr1 H⟩
def VF111 : Vr (searchBar→searchBar→Option Int):=fun h cs f=>∃ w,cs = [w]∧CF111 h w f
theorem VF111.mono : Mono VF111:=fun _ _ _ _ l ⟨w,e,c⟩=>⟨w,e,c.mono l⟩
theorem VF111.plain : Plain VF111:=fun _ _ _ ⟨w,e,c⟩=>by rw [e]; simp only [Sl.ones,c.1.1]; rfl
def CF93 (h : PH) (w : Value) (f : (List Int)→(List Int)→Option Bool) : Prop:=(w.oneCell' = true∧w.cells = [w].toArray)∧((∀ (x0 : List Int) (x1 : List Int),f x0 x1 = none)∨∃ fid us vs,w = .func (.func fid) us.toArray vs.toArray∧∀ h',Le h h'→∀ {pv0 : Value} {x0 : List Int} (pr0 : Slc (VI .i64) 1 h' pv0 x0) {pv1 : Value} {x1 : List Int} (pr1 : Slc (VI .i64) 1 h' pv1 x1) {r_0 : Bool} (H : f x0 x1 = some r_0) (L : List HProp),FnS Tryz.prog fid (us ++ [pv0,pv1] ++ vs) h' L (fun v h' L'=>v = .bool r_0∧L' = L))
theorem CF93.mono {h g : PH} {w : Value} {f : (List Int)→(List Int)→Option Bool} (c : CF93 h w f) (l : Le h g) : CF93 g w f:=⟨c.1,c.2.imp id fun ⟨fid,us,vs,e,k⟩=>⟨fid,us,vs,e,fun h' l'=>k h' (l.trans l')⟩⟩
theorem CF93.call {h : PH} {w : Value} {f : (List Int)→(List Int)→Option Bool} (c : CF93 h w f) {pv0 : Value} {x0 : List Int} (pr0 : Slc (VI .i64) 1 h pv0 x0) {pv1 : Value} {x1 : List Int} (pr1 : Slc (VI .i64) 1 h pv1 x1) {r_0 : Bool} (H : f x0 x1 = some r_0) : ∃ fid us vs,w = .func (.func fid) us.toArray vs.toArray∧∀ L : List HProp,FnS Tryz.prog fid (us ++ [pv0,pv1] ++ vs) h L (fun v h' L'=>v = .bool r_0∧L' = L):=by
  rcases c.2 with n | ⟨fid,us,vs,e,k⟩
  · rw [n] at H; cases H
  · exact ⟨fid,us,vs,e,k h (Le.refl h) pr0 pr1 H⟩
def VF93 : Vr ((List Int)→(List Int)→Option Bool):=fun h cs f=>∃ w,cs = [w]∧CF93 h w f
theorem VF93.mono : Mono VF93:=fun _ _ _ _ l ⟨w,e,c⟩=>⟨w,e,c.mono l⟩
theorem VF93.plain : Plain VF93:=fun _ _ _ ⟨w,e,c⟩=>by rw [e]; simp only [Sl.ones,c.1.1]; rfl
def CF128 (h : PH) (w : Value) (f : Int→Option Int) : Prop:=(w.oneCell' = true∧w.cells = [w].toArray)∧((∀ (x0 : Int),f x0 = none)∨∃ fid us vs,w = .func (.func fid) us.toArray vs.toArray∧∀ h',Le h h'→∀ {x0 : Int} {r_0 : Int} (H : f x0 = some r_0) (L : List HProp),FnS Tryz.prog fid (us ++ [.int .i64 x0] ++ vs) h' L (fun v h' L'=>v = .int .i64 r_0∧L' = L))
theorem CF128.mono {h g : PH} {w : Value} {f : Int→Option Int} (c : CF128 h w f) (l : Le h g) : CF128 g w f:=⟨c.1,c.2.imp id fun ⟨fid,us,vs,e,k⟩=>⟨fid,us,vs,e,fun h' l'=>k h' (l.trans l')⟩⟩
theorem CF128.call {h : PH} {w : Value} {f : Int→Option Int} (c : CF128 h w f) {x0 : Int} {r_0 : Int} (H : f x0 = some r_0) : ∃ fid us vs,w = .func (.func fid) us.toArray vs.toArray∧∀ L : List HProp,FnS Tryz.prog fid (us ++ [.int .i64 x0] ++ vs) h L (fun v h' L'=>v = .int .i64 r_0∧L' = L):=by
  rcases c.2 with n | ⟨fid,us,vs,e,k⟩
  · rw [n] at H; cases H
  · exact ⟨fid,us,vs,e,k h (Le.refl h) H⟩
def VF128 : Vr (Int→Option Int):=fun h cs f=>∃ w,cs = [w]∧CF128 h w f
theorem VF128.mono : Mono VF128:=fun _ _ _ _ l ⟨w,e,c⟩=>⟨w,e,c.mono l⟩
theorem VF128.plain : Plain VF128:=fun _ _ _ ⟨w,e,c⟩=>by rw [e]; simp only [Sl.ones,c.1.1]; rfl
def CF195 (h : PH) (w : Value) (f : Int→Int→Int→Int→Option Bool) : Prop:=(w.oneCell' = true∧w.cells = [w].toArray)∧((∀ (x0 : Int) (x1 : Int) (x2 : Int) (x3 : Int),f x0 x1 x2 x3 = none)∨∃ fid us vs,w = .func (.func fid) us.toArray vs.toArray∧∀ h',Le h h'→∀ {x0 : Int} {x1 : Int} {x2 : Int} {x3 : Int} {r_0 : Bool} (H : f x0 x1 x2 x3 = some r_0) (L : List HProp),FnS Tryz.prog fid (us ++ [.int .i64 x0,.int .i64 x1,.int .i64 x2,.int .i64 x3] ++ vs) h' L (fun v h' L'=>v = .bool r_0∧L' = L))
theorem CF195.mono {h g : PH} {w : Value} {f : Int→Int→Int→Int→Option Bool} (c : CF195 h w f) (l : Le h g) : CF195 g w f:=⟨c.1,c.2.imp id fun ⟨fid,us,vs,e,k⟩=>⟨fid,us,vs,e,fun h' l'=>k h' (l.trans l')⟩⟩
theorem CF195.call {h : PH} {w : Value} {f : Int→Int→Int→Int→Option Bool} (c : CF195 h w f) {x0 : Int} {x1 : Int} {x2 : Int} {x3 : Int} {r_0 : Bool} (H : f x0 x1 x2 x3 = some r_0) : ∃ fid us vs,w = .func (.func fid) us.toArray vs.toArray∧∀ L : List HProp,FnS Tryz.prog fid (us ++ [.int .i64 x0,.int .i64 x1,.int .i64 x2,.int .i64 x3] ++ vs) h L (fun v h' L'=>v = .bool r_0∧L' = L):=by
  rcases c.2 with n | ⟨fid,us,vs,e,k⟩
  · rw [n] at H; cases H
  · exact ⟨fid,us,vs,e,k h (Le.refl h) H⟩
def VF195 : Vr (Int→Int→Int→Int→Option Bool):=fun h cs f=>∃ w,cs = [w]∧CF195 h w f
theorem VF195.mono : Mono VF195:=fun _ _ _ _ l ⟨w,e,c⟩=>⟨w,e,c.mono l⟩
theorem VF195.plain : Plain VF195:=fun _ _ _ ⟨w,e,c⟩=>by rw [e]; simp only [Sl.ones,c.1.1]; rfl
def CF196 (h : PH) (w : Value) (f : Int→Int→Option (List (Int→Option Int))) : Prop:=(w.oneCell' = true∧w.cells = [w].toArray)∧((∀ (x0 : Int) (x1 : Int),f x0 x1 = none)∨∃ fid us vs,w = .func (.func fid) us.toArray vs.toArray∧∀ h',Le h h'→∀ {x0 : Int} {x1 : Int} {r_0 : List (Int→Option Int)} (H : f x0 x1 = some r_0) (L : List HProp),FnS Tryz.prog fid (us ++ [.int .i64 x0,.int .i64 x1] ++ vs) h' L (fun v h' L'=>L' = L∧Slc VF128 1 h' v r_0))
theorem CF196.mono {h g : PH} {w : Value} {f : Int→Int→Option (List (Int→Option Int))} (c : CF196 h w f) (l : Le h g) : CF196 g w f:=⟨c.1,c.2.imp id fun ⟨fid,us,vs,e,k⟩=>⟨fid,us,vs,e,fun h' l'=>k h' (l.trans l')⟩⟩
theorem CF196.call {h : PH} {w : Value} {f : Int→Int→Option (List (Int→Option Int))} (c : CF196 h w f) {x0 : Int} {x1 : Int} {r_0 : List (Int→Option Int)} (H : f x0 x1 = some r_0) : ∃ fid us vs,w = .func (.func fid) us.toArray vs.toArray∧∀ L : List HProp,FnS Tryz.prog fid (us ++ [.int .i64 x0,.int .i64 x1] ++ vs) h L (fun v h' L'=>L' = L∧Slc VF128 1 h' v r_0):=by
  rcases c.2 with n | ⟨fid,us,vs,e,k⟩
  · rw [n] at H; cases H
  · exact ⟨fid,us,vs,e,k h (Le.refl h) H⟩
def VF196 : Vr (Int→Int→Option (List (Int→Option Int))):=fun h cs f=>∃ w,cs = [w]∧CF196 h w f
theorem VF196.mono : Mono VF196:=fun _ _ _ _ l ⟨w,e,c⟩=>⟨w,e,c.mono l⟩
theorem VF196.plain : Plain VF196:=fun _ _ _ ⟨w,e,c⟩=>by rw [e]; simp only [Sl.ones,c.1.1]; rfl
def Vhalllayout : Vr halllayout:=fun h cs x=>∃ v1 v3 v5 v7 v9,cs = [.string x.fword,v1,v3,v5,v7,v9]∧CF36 h v1 x.fseats∧CF195 h v3 x.fbeside∧CF195 h v5 x.facross∧CF36 h v7 x.fhonour∧CF196 h v9 x.fmoves
theorem Vhalllayout.mono : Mono Vhalllayout:=fun h g cs x l ⟨v1,v3,v5,v7,v9,e,hF2,hF4,hF6,hF8,hF10⟩=>⟨v1,v3,v5,v7,v9,e,CF36.mono hF2 l,CF195.mono hF4 l,CF195.mono hF6 l,CF36.mono hF8 l,CF196.mono hF10 l⟩
theorem Vhalllayout.plain : Plain Vhalllayout:=fun h cs x ⟨v1,v3,v5,v7,v9,e,hF2,hF4,hF6,hF8,hF10⟩=>by rw [e]; (simp only [Sl.ones,fnV_one,hF2.1.1,hF4.1.1,hF6.1.1,hF8.1.1,hF10.1.1,Bool.and_true,Bool.true_and]) <;> rfl
def Vguestcontent : Vr guestcontent:=fun h cs x=>∃ v1 v3,cs = [v1,v3]∧Slc VapiGuest 9 h v1 x.fguests∧Slc VapiTie 3 h v3 x.fties
theorem Vguestcontent.mono : Mono Vguestcontent:=fun h g cs x l ⟨v1,v3,e,hS2,hS4⟩=>⟨v1,v3,e,Slc.mono VapiGuest.mono hS2 l,Slc.mono VapiTie.mono hS4 l⟩
theorem Vguestcontent.plain : Plain Vguestcontent:=fun h cs x ⟨v1,v3,e,hS2,hS4⟩=>by rw [e]; (simp only [Sl.ones,fnV_one,Slc.one hS2,Slc.one hS4,Bool.and_true,Bool.true_and]) <;> rfl
def VguestBook : Vr guestBook:=fun h cs x=>∃ v1 v3 v5,cs = [v1,v3,v5]∧Slc VapiGuest 9 h v1 x.fcontent.fguests∧Slc VapiTie 3 h v3 x.fcontent.fties∧Mp Value.string false (VI .i64) h v5 x.fat
theorem VguestBook.mono : Mono VguestBook:=fun h g cs x l ⟨v1,v3,v5,e,hS2,hS4,hM6⟩=>⟨v1,v3,v5,e,Slc.mono VapiGuest.mono hS2 l,Slc.mono VapiTie.mono hS4 l,Mp.mono VI.mono hM6 l⟩
theorem VguestBook.plain : Plain VguestBook:=fun h cs x ⟨v1,v3,v5,e,hS2,hS4,hM6⟩=>by rw [e]; (simp only [Sl.ones,fnV_one,Slc.one hS2,Slc.one hS4,Mp.one hM6,Bool.and_true,Bool.true_and]) <;> rfl
def CF182 (h : PH) (w : Value) (f : apiTie→apiTie→Option Int) : Prop:=(w.oneCell' = true∧w.cells = [w].toArray)∧((∀ (x0 : apiTie) (x1 : apiTie),f x0 x1 = none)∨∃ fid us vs,w = .func (.func fid) us.toArray vs.toArray∧∀ h',Le h h'→∀ {pc0 : List Value} {x0 : apiTie} (pr0 : VapiTie h' pc0 x0) {pc1 : List Value} {x1 : apiTie} (pr1 : VapiTie h' pc1 x1) {r_0 : Int} (H : f x0 x1 = some r_0) (L : List HProp),FnS Tryz.prog fid (us ++ [.agg pc0.toArray,.agg pc1.toArray] ++ vs) h' L (fun v h' L'=>v = .int .i64 r_0∧L' = L))
theorem CF182.mono {h g : PH} {w : Value} {f : apiTie→apiTie→Option Int} (c : CF182 h w f) (l : Le h g) : CF182 g w f:=⟨c.1,c.2.imp id fun ⟨fid,us,vs,e,k⟩=>⟨fid,us,vs,e,fun h' l'=>k h' (l.trans l')⟩⟩
theorem CF182.call {h : PH} {w : Value} {f : apiTie→apiTie→Option Int} (c : CF182 h w f) {pc0 : List Value} {x0 : apiTie} (pr0 : VapiTie h pc0 x0) {pc1 : List Value} {x1 : apiTie} (pr1 : VapiTie h pc1 x1) {r_0 : Int} (H : f x0 x1 = some r_0) : ∃ fid us vs,w = .func (.func fid) us.toArray vs.toArray∧∀ L : List HProp,FnS Tryz.prog fid (us ++ [.agg pc0.toArray,.agg pc1.toArray] ++ vs) h L (fun v h' L'=>v = .int .i64 r_0∧L' = L):=by
  rcases c.2 with n | ⟨fid,us,vs,e,k⟩
  · rw [n] at H; cases H
  · exact ⟨fid,us,vs,e,k h (Le.refl h) pr0 pr1 H⟩
def VF182 : Vr (apiTie→apiTie→Option Int):=fun h cs f=>∃ w,cs = [w]∧CF182 h w f
theorem VF182.mono : Mono VF182:=fun _ _ _ _ l ⟨w,e,c⟩=>⟨w,e,c.mono l⟩
theorem VF182.plain : Plain VF182:=fun _ _ _ ⟨w,e,c⟩=>by rw [e]; simp only [Sl.ones,c.1.1]; rfl
def VapiRoll : Vr apiRoll:=fun h cs x=>∃ v1 v3,cs = [v1,v3]∧Slc VapiGuest 9 h v1 x.fGuests∧Slc VapiTie 3 h v3 x.fTies
theorem VapiRoll.mono : Mono VapiRoll:=fun h g cs x l ⟨v1,v3,e,hS2,hS4⟩=>⟨v1,v3,e,Slc.mono VapiGuest.mono hS2 l,Slc.mono VapiTie.mono hS4 l⟩
theorem VapiRoll.plain : Plain VapiRoll:=fun h cs x ⟨v1,v3,e,hS2,hS4⟩=>by rw [e]; (simp only [Sl.ones,fnV_one,Slc.one hS2,Slc.one hS4,Bool.and_true,Bool.true_and]) <;> rfl
def VapiProblem : Vr apiProblem:=fun h cs x=>∃ v1 v3 v5 v7 v9,cs = [v1,v3,v5,v7,v9]∧Slc VapiTable 7 h v1 x.fTables∧Slc VapiGuest 9 h v3 x.fGuests∧Slc VapiTie 3 h v5 x.fTies∧Slc (VI .i64) 1 h v7 x.fClass∧Slc VapiRule 6 h v9 x.fRules
theorem VapiProblem.mono : Mono VapiProblem:=fun h g cs x l ⟨v1,v3,v5,v7,v9,e,hS2,hS4,hS6,hS8,hS10⟩=>⟨v1,v3,v5,v7,v9,e,Slc.mono VapiTable.mono hS2 l,Slc.mono VapiGuest.mono hS4 l,Slc.mono VapiTie.mono hS6 l,Slc.mono VI.mono hS8 l,Slc.mono VapiRule.mono hS10 l⟩
theorem VapiProblem.plain : Plain VapiProblem:=fun h cs x ⟨v1,v3,v5,v7,v9,e,hS2,hS4,hS6,hS8,hS10⟩=>by rw [e]; (simp only [Sl.ones,fnV_one,Slc.one hS2,Slc.one hS4,Slc.one hS6,Slc.one hS8,Slc.one hS10,Bool.and_true,Bool.true_and]) <;> rfl
def Vrulekind : Vr rulekind:=fun h cs x=>cs = [.string x.fword,.int .u8 x.fa,.bool x.fb,.int .u8 x.ft,.bool x.fn,.int .i64 x.flo,.bool x.fseat,(fnV x.ffind)]
theorem Vrulekind.mono : Mono Vrulekind:=fun h g cs x l e=>e
theorem Vrulekind.plain : Plain Vrulekind:=fun h cs x e=>by rw [show cs = _ from e]; (simp only [Sl.ones,fnV_one,Bool.and_true,Bool.true_and]) <;> rfl
def VruleJudge : Vr ruleJudge:=fun h cs x=>∃ v1 v3 v5 v7 v9 v11 v13 v15 v17 v19 v21 v23 v25 v27,cs = [v1,v3,v5,v7,v9,v11,v13,v15,v17,v19,v21,v23,v25,v27]∧Slc VapiTable 7 h v1 x.fgiven.fTables∧Slc VapiGuest 9 h v3 x.fgiven.fGuests∧Slc VapiTie 3 h v5 x.fgiven.fTies∧Slc (VI .i64) 1 h v7 x.fgiven.fClass∧Slc VapiRule 6 h v9 x.fgiven.fRules∧Mp (Value.int .u8) true Vrulekind h v11 x.fkinds∧Slc (VI .i64) 1 h v13 x.ftable∧Slc (VI .i64) 1 h v15 x.flevel∧Slc VB 1 h v17 x.fopen∧Slc (VSl (VI .i64) 1) 1 h v19 x.fbeside∧Slc (VSl (VI .i64) 1) 1 h v21 x.facross∧Slc (VMp (Value.int .i64) false (VI .i64)) 1 h v23 x.fsteps∧Slc (VSl VB 1) 1 h v25 x.fcommon∧Slc (VSl (VI .u8) 1) 1 h v27 x.fties
theorem VruleJudge.mono : Mono VruleJudge:=fun h g cs x l ⟨v1,v3,v5,v7,v9,v11,v13,v15,v17,v19,v21,v23,v25,v27,e,hS2,hS4,hS6,hS8,hS10,hM12,hS14,hS16,hS18,hS20,hS22,hS24,hS26,hS28⟩=>⟨v1,v3,v5,v7,v9,v11,v13,v15,v17,v19,v21,v23,v25,v27,e,Slc.mono VapiTable.mono hS2 l,Slc.mono VapiGuest.mono hS4 l,Slc.mono VapiTie.mono hS6 l,Slc.mono VI.mono hS8 l,Slc.mono VapiRule.mono hS10 l,Mp.mono Vrulekind.mono hM12 l,Slc.mono VI.mono hS14 l,Slc.mono VI.mono hS16 l,Slc.mono VB.mono hS18 l,Slc.mono (VSl.mono VI.mono) hS20 l,Slc.mono (VSl.mono VI.mono) hS22 l,Slc.mono (VMp.mono VI.mono) hS24 l,Slc.mono (VSl.mono VB.mono) hS26 l,Slc.mono (VSl.mono VI.mono) hS28 l⟩
theorem VruleJudge.plain : Plain VruleJudge:=fun h cs x ⟨v1,v3,v5,v7,v9,v11,v13,v15,v17,v19,v21,v23,v25,v27,e,hS2,hS4,hS6,hS8,hS10,hM12,hS14,hS16,hS18,hS20,hS22,hS24,hS26,hS28⟩=>by rw [e]; (simp only [Sl.ones,fnV_one,Slc.one hS2,Slc.one hS4,Slc.one hS6,Slc.one hS8,Slc.one hS10,Mp.one hM12,Slc.one hS14,Slc.one hS16,Slc.one hS18,Slc.one hS20,Slc.one hS22,Slc.one hS24,Slc.one hS26,Slc.one hS28,Bool.and_true,Bool.true_and]) <;> rfl
def Vruleview : Vr ruleview:=fun h cs x=>∃ v1 v3 v5,cs = [v1,v3,v5]∧Pt VruleJudge h v1 x.fJudge∧Slc (VI .i64) 1 h v3 x.fpart∧Slc (VI .i64) 1 h v5 x.fguest
theorem Vruleview.mono : Mono Vruleview:=fun h g cs x l ⟨v1,v3,v5,e,hP2,hS4,hS6⟩=>⟨v1,v3,v5,e,Pt.mono VruleJudge.mono hP2 l,Slc.mono VI.mono hS4 l,Slc.mono VI.mono hS6 l⟩
theorem Vruleview.plain : Plain Vruleview:=fun h cs x ⟨v1,v3,v5,e,hP2,hS4,hS6⟩=>by rw [e]; (simp only [Sl.ones,fnV_one,Pt.one hP2,Slc.one hS4,Slc.one hS6,Bool.and_true,Bool.true_and]) <;> rfl
def CY203 {σ : Type} (R : σ→PH→List HProp→Prop) (h : PH) (w : Value) (f : σ→Int→(List Int)→Option σ) : Prop:=(w.oneCell' = true∧w.cells = [w].toArray)∧(∀ s h h' La,Le h h'→R s h La→R s h' La)∧∀ h',Le h h'→∀ {x0 : Int} {pv1 : Value} {x1 : List Int} (pr1 : Slc (VI .i64) 1 h' pv1 x1) {s s' : σ} {La : List HProp}  (hR : R s h' La) (H : f s x0 x1 = some s') (As L : List HProp),Yld Tryz.prog w [.int .i64 x0,pv1] h' (As ++ (La ++ L)) (fun v h2 L'=>∃ La',v = .tuple #[]∧L' = As ++ (La' ++ L)∧R s' h2 La')
theorem CY203.mono {σ : Type} {R : σ→PH→List HProp→Prop} {h g : PH} {w : Value} {f : σ→Int→(List Int)→Option σ} (c : CY203 R h w f) (l : Le h g) : CY203 R g w f:=⟨c.1,c.2.1,fun h' l'=>c.2.2 h' (l.trans l')⟩
theorem CY203.call {σ : Type} {R : σ→PH→List HProp→Prop} {h : PH} {w : Value} {f : σ→Int→(List Int)→Option σ} (c : CY203 R h w f) : ∀ {x0 : Int} {pv1 : Value} {x1 : List Int} (pr1 : Slc (VI .i64) 1 h pv1 x1) {s s' : σ} {La : List HProp}  (hR : R s h La) (H : f s x0 x1 = some s') (As L : List HProp),Yld Tryz.prog w [.int .i64 x0,pv1] h (As ++ (La ++ L)) (fun v h2 L'=>∃ La',v = .tuple #[]∧L' = As ++ (La' ++ L)∧R s' h2 La'):=fun pr1=>fun hR H As L=>c.2.2 h (Le.refl h) pr1 hR H As L
def CF223 (h : PH) (w : Value) (f : Int→Int→Option Bool) : Prop:=(w.oneCell' = true∧w.cells = [w].toArray)∧((∀ (x0 : Int) (x1 : Int),f x0 x1 = none)∨∃ fid us vs,w = .func (.func fid) us.toArray vs.toArray∧∀ h',Le h h'→∀ {x0 : Int} {x1 : Int} {r_0 : Bool} (H : f x0 x1 = some r_0) (L : List HProp),FnS Tryz.prog fid (us ++ [.int .i64 x0,.int .i64 x1] ++ vs) h' L (fun v h' L'=>v = .bool r_0∧L' = L))
theorem CF223.mono {h g : PH} {w : Value} {f : Int→Int→Option Bool} (c : CF223 h w f) (l : Le h g) : CF223 g w f:=⟨c.1,c.2.imp id fun ⟨fid,us,vs,e,k⟩=>⟨fid,us,vs,e,fun h' l'=>k h' (l.trans l')⟩⟩
theorem CF223.call {h : PH} {w : Value} {f : Int→Int→Option Bool} (c : CF223 h w f) {x0 : Int} {x1 : Int} {r_0 : Bool} (H : f x0 x1 = some r_0) : ∃ fid us vs,w = .func (.func fid) us.toArray vs.toArray∧∀ L : List HProp,FnS Tryz.prog fid (us ++ [.int .i64 x0,.int .i64 x1] ++ vs) h L (fun v h' L'=>v = .bool r_0∧L' = L):=by
  rcases c.2 with n | ⟨fid,us,vs,e,k⟩
  · rw [n] at H; cases H
  · exact ⟨fid,us,vs,e,k h (Le.refl h) H⟩
def VF223 : Vr (Int→Int→Option Bool):=fun h cs f=>∃ w,cs = [w]∧CF223 h w f
theorem VF223.mono : Mono VF223:=fun _ _ _ _ l ⟨w,e,c⟩=>⟨w,e,c.mono l⟩
theorem VF223.plain : Plain VF223:=fun _ _ _ ⟨w,e,c⟩=>by rw [e]; simp only [Sl.ones,c.1.1]; rfl
def CY225 {σ : Type} (R : σ→PH→List HProp→Prop) (h : PH) (w : Value) (f : σ→(List Int)→Option σ) : Prop:=(w.oneCell' = true∧w.cells = [w].toArray)∧(∀ s h h' La,Le h h'→R s h La→R s h' La)∧∀ h',Le h h'→∀ {pv0 : Value} {x0 : List Int} (pr0 : Slc (VI .i64) 1 h' pv0 x0) {s s' : σ} {La : List HProp}  (hR : R s h' La) (H : f s x0 = some s') (As L : List HProp),Yld Tryz.prog w [pv0] h' (As ++ (La ++ L)) (fun v h2 L'=>∃ La',v = .tuple #[]∧L' = As ++ (La' ++ L)∧R s' h2 La')
theorem CY225.mono {σ : Type} {R : σ→PH→List HProp→Prop} {h g : PH} {w : Value} {f : σ→(List Int)→Option σ} (c : CY225 R h w f) (l : Le h g) : CY225 R g w f:=⟨c.1,c.2.1,fun h' l'=>c.2.2 h' (l.trans l')⟩
theorem CY225.call {σ : Type} {R : σ→PH→List HProp→Prop} {h : PH} {w : Value} {f : σ→(List Int)→Option σ} (c : CY225 R h w f) : ∀ {pv0 : Value} {x0 : List Int} (pr0 : Slc (VI .i64) 1 h pv0 x0) {s s' : σ} {La : List HProp}  (hR : R s h La) (H : f s x0 = some s') (As L : List HProp),Yld Tryz.prog w [pv0] h (As ++ (La ++ L)) (fun v h2 L'=>∃ La',v = .tuple #[]∧L' = As ++ (La' ++ L)∧R s' h2 La'):=fun pr0=>fun hR H As L=>c.2.2 h (Le.refl h) pr0 hR H As L
def CF130 (h : PH) (w : Value) (f : ruleview→Int→Option Int) : Prop:=(w.oneCell' = true∧w.cells = [w].toArray)∧((∀ (x0 : ruleview) (x1 : Int),f x0 x1 = none)∨∃ fid us vs,w = .func (.func fid) us.toArray vs.toArray∧∀ h',Le h h'→∀ {pv0 : Value} {x0 : ruleview} (pr0 : Pt Vruleview h' pv0 x0) {x1 : Int} {r_0 : Int} (H : f x0 x1 = some r_0) (L : List HProp),FnS Tryz.prog fid (us ++ [pv0,.int .i64 x1] ++ vs) h' L (fun v h' L'=>v = .int .i64 r_0∧L' = L))
theorem CF130.mono {h g : PH} {w : Value} {f : ruleview→Int→Option Int} (c : CF130 h w f) (l : Le h g) : CF130 g w f:=⟨c.1,c.2.imp id fun ⟨fid,us,vs,e,k⟩=>⟨fid,us,vs,e,fun h' l'=>k h' (l.trans l')⟩⟩
theorem CF130.call {h : PH} {w : Value} {f : ruleview→Int→Option Int} (c : CF130 h w f) {pv0 : Value} {x0 : ruleview} (pr0 : Pt Vruleview h pv0 x0) {x1 : Int} {r_0 : Int} (H : f x0 x1 = some r_0) : ∃ fid us vs,w = .func (.func fid) us.toArray vs.toArray∧∀ L : List HProp,FnS Tryz.prog fid (us ++ [pv0,.int .i64 x1] ++ vs) h L (fun v h' L'=>v = .int .i64 r_0∧L' = L):=by
  rcases c.2 with n | ⟨fid,us,vs,e,k⟩
  · rw [n] at H; cases H
  · exact ⟨fid,us,vs,e,k h (Le.refl h) pr0 H⟩
def VF130 : Vr (ruleview→Int→Option Int):=fun h cs f=>∃ w,cs = [w]∧CF130 h w f
theorem VF130.mono : Mono VF130:=fun _ _ _ _ l ⟨w,e,c⟩=>⟨w,e,c.mono l⟩
theorem VF130.plain : Plain VF130:=fun _ _ _ ⟨w,e,c⟩=>by rw [e]; simp only [Sl.ones,c.1.1]; rfl
def CY65 {σ : Type} (R : σ→PH→List HProp→Prop) (h : PH) (w : Value) (f : σ→(List Int)→Option (σ×Bool)) : Prop:=(w.oneCell' = true∧w.cells = [w].toArray)∧(∀ s h h' La,Le h h'→R s h La→R s h' La)∧∀ h',Le h h'→∀ {pv0 : Value} {x0 : List Int} (pr0 : Slc (VI .i64) 1 h' pv0 x0) {s s' : σ} {La : List HProp} {r_0 : Bool} (hR : R s h' La) (H : f s x0 = some (s',r_0)) (As L : List HProp),Yld Tryz.prog w [pv0] h' (As ++ (La ++ L)) (fun v h2 L'=>∃ La',v = .bool r_0∧L' = As ++ (La' ++ L)∧R s' h2 La')
theorem CY65.mono {σ : Type} {R : σ→PH→List HProp→Prop} {h g : PH} {w : Value} {f : σ→(List Int)→Option (σ×Bool)} (c : CY65 R h w f) (l : Le h g) : CY65 R g w f:=⟨c.1,c.2.1,fun h' l'=>c.2.2 h' (l.trans l')⟩
theorem CY65.call {σ : Type} {R : σ→PH→List HProp→Prop} {h : PH} {w : Value} {f : σ→(List Int)→Option (σ×Bool)} (c : CY65 R h w f) : ∀ {pv0 : Value} {x0 : List Int} (pr0 : Slc (VI .i64) 1 h pv0 x0) {s s' : σ} {La : List HProp} {r_0 : Bool} (hR : R s h La) (H : f s x0 = some (s',r_0)) (As L : List HProp),Yld Tryz.prog w [pv0] h (As ++ (La ++ L)) (fun v h2 L'=>∃ La',v = .bool r_0∧L' = As ++ (La' ++ L)∧R s' h2 La'):=fun pr0=>fun hR H As L=>c.2.2 h (Le.refl h) pr0 hR H As L
def Vsearchhunt : Vr searchhunt:=fun h cs x=>∃ v1 v3 v5 v7 v9 v11 v13 v15 v17,cs = [v1,v3,v5,v7,v9,v11,v13,v15,v17]∧Pt VruleJudge h v1 x.fJudge∧Slc VapiTable 7 h v3 x.fp.fTables∧Slc VapiGuest 9 h v5 x.fp.fGuests∧Slc VapiTie 3 h v7 x.fp.fTies∧Slc (VI .i64) 1 h v9 x.fp.fClass∧Slc VapiRule 6 h v11 x.fp.fRules∧Slc (VI .i64) 1 h v13 x.ftable∧Slc (VI .i64) 1 h v15 x.ffirst∧Slc (VSl (VSl (VI .i64) 1) 1) 1 h v17 x.fgroups
theorem Vsearchhunt.mono : Mono Vsearchhunt:=fun h g cs x l ⟨v1,v3,v5,v7,v9,v11,v13,v15,v17,e,hP2,hS4,hS6,hS8,hS10,hS12,hS14,hS16,hS18⟩=>⟨v1,v3,v5,v7,v9,v11,v13,v15,v17,e,Pt.mono VruleJudge.mono hP2 l,Slc.mono VapiTable.mono hS4 l,Slc.mono VapiGuest.mono hS6 l,Slc.mono VapiTie.mono hS8 l,Slc.mono VI.mono hS10 l,Slc.mono VapiRule.mono hS12 l,Slc.mono VI.mono hS14 l,Slc.mono VI.mono hS16 l,Slc.mono (VSl.mono (VSl.mono VI.mono)) hS18 l⟩
theorem Vsearchhunt.plain : Plain Vsearchhunt:=fun h cs x ⟨v1,v3,v5,v7,v9,v11,v13,v15,v17,e,hP2,hS4,hS6,hS8,hS10,hS12,hS14,hS16,hS18⟩=>by rw [e]; (simp only [Sl.ones,fnV_one,Pt.one hP2,Slc.one hS4,Slc.one hS6,Slc.one hS8,Slc.one hS10,Slc.one hS12,Slc.one hS14,Slc.one hS16,Slc.one hS18,Bool.and_true,Bool.true_and]) <;> rfl
def CY65l {σ : Type} (R : σ→PH→List HProp→Prop) (h : PH) (w : Value) (f : σ→(List Int)→Option (σ×Bool)) : Prop:=(w.oneCell' = true∧w.cells = [w].toArray)∧(∀ s h h' La,Le h h'→R s h La→R s h' La)∧∀ h',Le h h'→∀ {pv0 : Value} {pcs0 : List (List Value)} {x0 : List Int} (pr0 : RowF (VI .i64) h' pcs0 x0) {s s' : σ} {La : List HProp} {r_0 : Bool} (hR : R s h' La) (H : f s x0 = some (s',r_0)) (As L : List HProp),Yld Tryz.prog w [pv0] h' (rowR 3 1 pv0 pcs0::(As ++ (La ++ L))) (fun v h2 L'=>∃ La' ls,v = .bool r_0∧L' = rowR 3 1 pv0 ls::(As ++ (La' ++ L))∧R s' h2 La'∧RowF (VI .i64) h2 ls x0)
theorem CY65l.mono {σ : Type} {R : σ→PH→List HProp→Prop} {h g : PH} {w : Value} {f : σ→(List Int)→Option (σ×Bool)} (c : CY65l R h w f) (l : Le h g) : CY65l R g w f:=⟨c.1,c.2.1,fun h' l'=>c.2.2 h' (l.trans l')⟩
theorem CY65l.call {σ : Type} {R : σ→PH→List HProp→Prop} {h : PH} {w : Value} {f : σ→(List Int)→Option (σ×Bool)} (c : CY65l R h w f) : ∀ {pv0 : Value} {pcs0 : List (List Value)} {x0 : List Int} (pr0 : RowF (VI .i64) h pcs0 x0) {s s' : σ} {La : List HProp} {r_0 : Bool} (hR : R s h La) (H : f s x0 = some (s',r_0)) (As L : List HProp),Yld Tryz.prog w [pv0] h (rowR 3 1 pv0 pcs0::(As ++ (La ++ L))) (fun v h2 L'=>∃ La' ls,v = .bool r_0∧L' = rowR 3 1 pv0 ls::(As ++ (La' ++ L))∧R s' h2 La'∧RowF (VI .i64) h2 ls x0):=fun pr0=>fun hR H As L=>c.2.2 h (Le.refl h) pr0 hR H As L
def VapiStep : Vr apiStep:=fun h cs x=>cs = [.int .u8 x.fKind,.int .i64 x.fN]
theorem VapiStep.mono : Mono VapiStep:=fun h g cs x l e=>e
theorem VapiStep.plain : Plain VapiStep:=fun h cs x e=>by rw [show cs = _ from e]; rfl
def Vsearchreader : Vr searchreader:=fun h cs x=>∃ v1 v3 v5,cs = [v1,.int .i64 x.fbound,v3,.int .i64 x.fat,v5]∧Pt Vsearchhunt h v1 x.fhunt∧Slc VapiStep 2 h v3 x.fsteps∧Slc (VI .i64) 1 h v5 x.fpart
theorem Vsearchreader.mono : Mono Vsearchreader:=fun h g cs x l ⟨v1,v3,v5,e,hP2,hS4,hS6⟩=>⟨v1,v3,v5,e,Pt.mono Vsearchhunt.mono hP2 l,Slc.mono VapiStep.mono hS4 l,Slc.mono VI.mono hS6 l⟩
theorem Vsearchreader.plain : Plain Vsearchreader:=fun h cs x ⟨v1,v3,v5,e,hP2,hS4,hS6⟩=>by rw [e]; (simp only [Sl.ones,fnV_one,Pt.one hP2,Slc.one hS4,Slc.one hS6,Bool.and_true,Bool.true_and]) <;> rfl
def Vsearchwrong : Vr searchwrong:=fun h cs x=>cs = [.int .i64 x.fat,.int .i64 x.fe]
theorem Vsearchwrong.mono : Mono Vsearchwrong:=fun h g cs x l e=>e
theorem Vsearchwrong.plain : Plain Vsearchwrong:=fun h cs x e=>by rw [show cs = _ from e]; rfl
def VapiRanked : Vr apiRanked:=fun h cs x=>∃ v1,cs = [v1,.int .i64 x.fCost]∧Slc (VI .i64) 1 h v1 x.fPlan
theorem VapiRanked.mono : Mono VapiRanked:=fun h g cs x l ⟨v1,e,hS2⟩=>⟨v1,e,Slc.mono VI.mono hS2 l⟩
theorem VapiRanked.plain : Plain VapiRanked:=fun h cs x ⟨v1,e,hS2⟩=>by rw [e]; (simp only [Sl.ones,fnV_one,Slc.one hS2,Bool.and_true,Bool.true_and]) <;> rfl
def Vsearchprover : Vr searchprover:=fun h cs x=>∃ v1 v3 v5,cs = [v1,.int .i64 x.fbound,v3,v5]∧Pt Vsearchhunt h v1 x.fhunt∧Slc VapiStep 2 h v3 x.fsteps∧Slc (VI .i64) 1 h v5 x.fpart
theorem Vsearchprover.mono : Mono Vsearchprover:=fun h g cs x l ⟨v1,v3,v5,e,hP2,hS4,hS6⟩=>⟨v1,v3,v5,e,Pt.mono Vsearchhunt.mono hP2 l,Slc.mono VapiStep.mono hS4 l,Slc.mono VI.mono hS6 l⟩
theorem Vsearchprover.plain : Plain Vsearchprover:=fun h cs x ⟨v1,v3,v5,e,hP2,hS4,hS6⟩=>by rw [e]; (simp only [Sl.ones,fnV_one,Pt.one hP2,Slc.one hS4,Slc.one hS6,Bool.and_true,Bool.true_and]) <;> rfl
end Go.Dm
