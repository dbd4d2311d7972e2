import Derived.Test.YteaklbinndmohaaGreatDoorChecked
import Derived.Test.YteaklbinndmohaaGreatDoorDa
/- How values stand for data. -/
set_option maxRecDepth 1000000
set_option maxHeartbeats 40000000
set_option linter.unusedVariables false
set_option linter.unusedSimpArgs false
set_option linter.unnecessarySimpa false
open Go Go.Proofs Go.Sl
namespace Go.Dm
def CF130 (h : PH) (w : Value) (f : Int→Option Bool) : Prop:=(w.oneCell' = true∧w.cells = [w].toArray)∧((∀ (x0 : Int),f x0 = none)∨∃ fid us vs,w = .func (.func fid) us.toArray vs.toArray∧∀ h',Le h h'→∀ {x0 : Int} {r_0 : Bool} (H : f x0 = some r_0) (L : List HProp),FnS Tryz.prog fid (us ++ [.int .i64 x0] ++ vs) h' L (fun v h' L'=>v = .bool r_0∧L' = L))
theorem CF130.mono {h g : PH} {w : Value} {f : Int→Option Bool} (c : CF130 h w f) (l : Le h g) : CF130 g w f:=⟨c.1,c.2.imp id fun ⟨fid,us,vs,e,k⟩=>⟨fid,us,vs,e,fun h' l'=>k h' (l.trans l')⟩⟩
theorem CF130.call {h : PH} {w : Value} {f : Int→Option Bool} (c : CF130 h w f) {x0 : Int} {r_0 : Bool} (H : f x0 = some r_0) : ∃ fid us vs,w = .func (.func fid) us.toArray vs.toArray∧∀ L : List HProp,FnS Tryz.prog fid (us ++ [.int .i64 x0] ++ vs) h L (fun v h' L'=>v = .bool r_0∧L' = L):=by
  rcases c.2 with n | ⟨fid,us,vs,e,k⟩
  · rw [n] at H; cases H
  · exact ⟨fid,us,vs,e,k h (Le.refl h) H⟩
def VapiTable : Vr apiTable:=fun h cs x=>∃ v1,cs = [.string x.fName,.int .u8 x.fShape,.int .i64 x.fA,.int .i64 x.fB,v1,.int .i64 x.fX,.int .i64 x.fY]∧Slc (VI .i64) 1 h v1 x.fOpen
theorem VapiTable.mono : Mono VapiTable:=fun h g cs x l ⟨v1,e,hS2⟩=>⟨v1,e,Slc.mono VI.mono hS2 l⟩
theorem VapiTable.plain : Plain VapiTable:=fun h cs x ⟨v1,e,hS2⟩=>by rw [e]; (simp only [Sl.ones,fnV_one,Slc.one hS2,Bool.and_true,Bool.true_and]) <;> rfl
def CF254 (h : PH) (w : Value) (f : apiTable→Option Bool) : Prop:=(w.oneCell' = true∧w.cells = [w].toArray)∧((∀ (x0 : apiTable),f x0 = none)∨∃ fid us vs,w = .func (.func fid) us.toArray vs.toArray∧∀ h',Le h h'→∀ {pc0 : List Value} {x0 : apiTable} (pr0 : VapiTable h' pc0 x0) {r_0 : Bool} (H : f x0 = some r_0) (L : List HProp),FnS Tryz.prog fid (us ++ [.agg pc0.toArray] ++ vs) h' L (fun v h' L'=>v = .bool r_0∧L' = L))
theorem CF254.mono {h g : PH} {w : Value} {f : apiTable→Option Bool} (c : CF254 h w f) (l : Le h g) : CF254 g w f:=⟨c.1,c.2.imp id fun ⟨fid,us,vs,e,k⟩=>⟨fid,us,vs,e,fun h' l'=>k h' (l.trans l')⟩⟩
theorem CF254.call {h : PH} {w : Value} {f : apiTable→Option Bool} (c : CF254 h w f) {pc0 : List Value} {x0 : apiTable} (pr0 : VapiTable h pc0 x0) {r_0 : Bool} (H : f x0 = some r_0) : ∃ fid us vs,w = .func (.func fid) us.toArray vs.toArray∧∀ L : List HProp,FnS Tryz.prog fid (us ++ [.agg pc0.toArray] ++ vs) h L (fun v h' L'=>v = .bool r_0∧L' = L):=by
  rcases c.2 with n | ⟨fid,us,vs,e,k⟩
  · rw [n] at H; cases H
  · exact ⟨fid,us,vs,e,k h (Le.refl h) pr0 H⟩
def VapiGuest : Vr apiGuest:=fun h cs x=>∃ v1,cs = [.string x.fName,.string x.fRank,.string x.fCourt,.int .i64 x.fSince,.int .i64 x.fSide,.string x.fDiet,.bool x.fHost,.bool x.fAccess,v1]∧Slc VS 1 h v1 x.fTongues
theorem VapiGuest.mono : Mono VapiGuest:=fun h g cs x l ⟨v1,e,hS2⟩=>⟨v1,e,Slc.mono VS.mono hS2 l⟩
theorem VapiGuest.plain : Plain VapiGuest:=fun h cs x ⟨v1,e,hS2⟩=>by rw [e]; (simp only [Sl.ones,fnV_one,Slc.one hS2,Bool.and_true,Bool.true_and]) <;> rfl
def CF233 (h : PH) (w : Value) (f : apiGuest→Option Bool) : Prop:=(w.oneCell' = true∧w.cells = [w].toArray)∧((∀ (x0 : apiGuest),f x0 = none)∨∃ fid us vs,w = .func (.func fid) us.toArray vs.toArray∧∀ h',Le h h'→∀ {pc0 : List Value} {x0 : apiGuest} (pr0 : VapiGuest h' pc0 x0) {r_0 : Bool} (H : f x0 = some r_0) (L : List HProp),FnS Tryz.prog fid (us ++ [.agg pc0.toArray] ++ vs) h' L (fun v h' L'=>v = .bool r_0∧L' = L))
theorem CF233.mono {h g : PH} {w : Value} {f : apiGuest→Option Bool} (c : CF233 h w f) (l : Le h g) : CF233 g w f:=⟨c.1,c.2.imp id fun ⟨fid,us,vs,e,k⟩=>⟨fid,us,vs,e,fun h' l'=>k h' (l.trans l')⟩⟩
theorem CF233.call {h : PH} {w : Value} {f : apiGuest→Option Bool} (c : CF233 h w f) {pc0 : List Value} {x0 : apiGuest} (pr0 : VapiGuest h pc0 x0) {r_0 : Bool} (H : f x0 = some r_0) : ∃ fid us vs,w = .func (.func fid) us.toArray vs.toArray∧∀ L : List HProp,FnS Tryz.prog fid (us ++ [.agg pc0.toArray] ++ vs) h L (fun v h' L'=>v = .bool r_0∧L' = L):=by
  rcases c.2 with n | ⟨fid,us,vs,e,k⟩
  · rw [n] at H; cases H
  · exact ⟨fid,us,vs,e,k h (Le.refl h) pr0 H⟩
def CF225 (h : PH) (w : Value) (f : ByteArray→Option Bool) : Prop:=(w.oneCell' = true∧w.cells = [w].toArray)∧((∀ (x0 : ByteArray),f x0 = none)∨∃ fid us vs,w = .func (.func fid) us.toArray vs.toArray∧∀ h',Le h h'→∀ {x0 : ByteArray} {r_0 : Bool} (H : f x0 = some r_0) (L : List HProp),FnS Tryz.prog fid (us ++ [.string x0] ++ vs) h' L (fun v h' L'=>v = .bool r_0∧L' = L))
def VapiTie : Vr apiTie:=fun h cs x=>cs = [.string x.fA,.string x.fB,.int .u8 x.fKind]
theorem VapiTie.mono : Mono VapiTie:=fun h g cs x l e=>e
theorem VapiTie.plain : Plain VapiTie:=fun h cs x e=>by rw [show cs = _ from e]; rfl
def VapiRule : Vr apiRule:=fun h cs x=>cs = [.int .u8 x.fKind,.int .i64 x.fWeight,.string x.fA,.string x.fB,.string x.fTable,.int .i64 x.fN]
theorem VapiRule.mono : Mono VapiRule:=fun h g cs x l e=>e
theorem VapiRule.plain : Plain VapiRule:=fun h cs x e=>by rw [show cs = _ from e]; rfl
def CF101 (h : PH) (w : Value) (f : Int→Int→Option Int) : Prop:=(w.oneCell' = true∧w.cells = [w].toArray)∧((∀ (x0 : Int) (x1 : Int),f x0 x1 = none)∨∃ fid us vs,w = .func (.func fid) us.toArray vs.toArray∧∀ h',Le h h'→∀ {x0 : Int} {x1 : Int} {r_0 : Int} (H : f x0 x1 = some r_0) (L : List HProp),FnS Tryz.prog fid (us ++ [.int .i64 x0,.int .i64 x1] ++ vs) h' L (fun v h' L'=>v = .int .i64 r_0∧L' = L))
theorem CF101.mono {h g : PH} {w : Value} {f : Int→Int→Option Int} (c : CF101 h w f) (l : Le h g) : CF101 g w f:=⟨c.1,c.2.imp id fun ⟨fid,us,vs,e,k⟩=>⟨fid,us,vs,e,fun h' l'=>k h' (l.trans l')⟩⟩
theorem CF101.call {h : PH} {w : Value} {f : Int→Int→Option Int} (c : CF101 h w f) {x0 : Int} {x1 : Int} {r_0 : Int} (H : f x0 x1 = some r_0) : ∃ fid us vs,w = .func (.func fid) us.toArray vs.toArray∧∀ L : List HProp,FnS Tryz.prog fid (us ++ [.int .i64 x0,.int .i64 x1] ++ vs) h L (fun v h' L'=>v = .int .i64 r_0∧L' = L):=by
  rcases c.2 with n | ⟨fid,us,vs,e,k⟩
  · rw [n] at H; cases H
  · exact ⟨fid,us,vs,e,k h (Le.refl h) H⟩
def CF353 (h : PH) (w : Value) (f : (List Int)→(List Int)→Option Int) : Prop:=(w.oneCell' = true∧w.cells = [w].toArray)∧((∀ (x0 : List Int) (x1 : List Int),f x0 x1 = none)∨∃ fid us vs,w = .func (.func fid) us.toArray vs.toArray∧∀ h',Le h h'→∀ {pv0 : Value} {x0 : List Int} (pr0 : Slc (VI .i64) 1 h' pv0 x0) {pv1 : Value} {x1 : List Int} (pr1 : Slc (VI .i64) 1 h' pv1 x1) {r_0 : Int} (H : f x0 x1 = some r_0) (L : List HProp),FnS Tryz.prog fid (us ++ [pv0,pv1] ++ vs) h' L (fun v h' L'=>v = .int .i64 r_0∧L' = L))
theorem CF353.mono {h g : PH} {w : Value} {f : (List Int)→(List Int)→Option Int} (c : CF353 h w f) (l : Le h g) : CF353 g w f:=⟨c.1,c.2.imp id fun ⟨fid,us,vs,e,k⟩=>⟨fid,us,vs,e,fun h' l'=>k h' (l.trans l')⟩⟩
theorem CF353.call {h : PH} {w : Value} {f : (List Int)→(List Int)→Option Int} (c : CF353 h w f) {pv0 : Value} {x0 : List Int} (pr0 : Slc (VI .i64) 1 h pv0 x0) {pv1 : Value} {x1 : List Int} (pr1 : Slc (VI .i64) 1 h pv1 x1) {r_0 : Int} (H : f x0 x1 = some r_0) : ∃ fid us vs,w = .func (.func fid) us.toArray vs.toArray∧∀ L : List HProp,FnS Tryz.prog fid (us ++ [pv0,pv1] ++ vs) h L (fun v h' L'=>v = .int .i64 r_0∧L' = L):=by
  rcases c.2 with n | ⟨fid,us,vs,e,k⟩
  · rw [n] at H; cases H
  · exact ⟨fid,us,vs,e,k h (Le.refl h) pr0 pr1 H⟩
def CF78 (h : PH) (w : Value) (f : (List Int)→(List Int)→Option Bool) : Prop:=(w.oneCell' = true∧w.cells = [w].toArray)∧((∀ (x0 : List Int) (x1 : List Int),f x0 x1 = none)∨∃ fid us vs,w = .func (.func fid) us.toArray vs.toArray∧∀ h',Le h h'→∀ {pv0 : Value} {x0 : List Int} (pr0 : Slc (VI .i64) 1 h' pv0 x0) {pv1 : Value} {x1 : List Int} (pr1 : Slc (VI .i64) 1 h' pv1 x1) {r_0 : Bool} (H : f x0 x1 = some r_0) (L : List HProp),FnS Tryz.prog fid (us ++ [pv0,pv1] ++ vs) h' L (fun v h' L'=>v = .bool r_0∧L' = L))
theorem CF78.mono {h g : PH} {w : Value} {f : (List Int)→(List Int)→Option Bool} (c : CF78 h w f) (l : Le h g) : CF78 g w f:=⟨c.1,c.2.imp id fun ⟨fid,us,vs,e,k⟩=>⟨fid,us,vs,e,fun h' l'=>k h' (l.trans l')⟩⟩
theorem CF78.call {h : PH} {w : Value} {f : (List Int)→(List Int)→Option Bool} (c : CF78 h w f) {pv0 : Value} {x0 : List Int} (pr0 : Slc (VI .i64) 1 h pv0 x0) {pv1 : Value} {x1 : List Int} (pr1 : Slc (VI .i64) 1 h pv1 x1) {r_0 : Bool} (H : f x0 x1 = some r_0) : ∃ fid us vs,w = .func (.func fid) us.toArray vs.toArray∧∀ L : List HProp,FnS Tryz.prog fid (us ++ [pv0,pv1] ++ vs) h L (fun v h' L'=>v = .bool r_0∧L' = L):=by
  rcases c.2 with n | ⟨fid,us,vs,e,k⟩
  · rw [n] at H; cases H
  · exact ⟨fid,us,vs,e,k h (Le.refl h) pr0 pr1 H⟩
def CF71 (h : PH) (w : Value) (f : Int→Option Int) : Prop:=(w.oneCell' = true∧w.cells = [w].toArray)∧((∀ (x0 : Int),f x0 = none)∨∃ fid us vs,w = .func (.func fid) us.toArray vs.toArray∧∀ h',Le h h'→∀ {x0 : Int} {r_0 : Int} (H : f x0 = some r_0) (L : List HProp),FnS Tryz.prog fid (us ++ [.int .i64 x0] ++ vs) h' L (fun v h' L'=>v = .int .i64 r_0∧L' = L))
theorem CF71.mono {h g : PH} {w : Value} {f : Int→Option Int} (c : CF71 h w f) (l : Le h g) : CF71 g w f:=⟨c.1,c.2.imp id fun ⟨fid,us,vs,e,k⟩=>⟨fid,us,vs,e,fun h' l'=>k h' (l.trans l')⟩⟩
theorem CF71.call {h : PH} {w : Value} {f : Int→Option Int} (c : CF71 h w f) {x0 : Int} {r_0 : Int} (H : f x0 = some r_0) : ∃ fid us vs,w = .func (.func fid) us.toArray vs.toArray∧∀ L : List HProp,FnS Tryz.prog fid (us ++ [.int .i64 x0] ++ vs) h L (fun v h' L'=>v = .int .i64 r_0∧L' = L):=by
  rcases c.2 with n | ⟨fid,us,vs,e,k⟩
  · rw [n] at H; cases H
  · exact ⟨fid,us,vs,e,k h (Le.refl h) H⟩
def VF71 : Vr (Int→Option Int):=fun h cs f=>∃ w,cs = [w]∧CF71 h w f
theorem VF71.mono : Mono VF71:=fun _ _ _ _ l ⟨w,e,c⟩=>⟨w,e,c.mono l⟩
theorem VF71.plain : Plain VF71:=fun _ _ _ ⟨w,e,c⟩=>by rw [e]; simp only [Sl.ones,c.1.1]; rfl
def CF184 (h : PH) (w : Value) (f : Int→Int→Int→Int→Option Bool) : Prop:=(w.oneCell' = true∧w.cells = [w].toArray)∧((∀ (x0 : Int) (x1 : Int) (x2 : Int) (x3 : Int),f x0 x1 x2 x3 = none)∨∃ fid us vs,w = .func (.func fid) us.toArray vs.toArray∧∀ h',Le h h'→∀ {x0 : Int} {x1 : Int} {x2 : Int} {x3 : Int} {r_0 : Bool} (H : f x0 x1 x2 x3 = some r_0) (L : List HProp),FnS Tryz.prog fid (us ++ [.int .i64 x0,.int .i64 x1,.int .i64 x2,.int .i64 x3] ++ vs) h' L (fun v h' L'=>v = .bool r_0∧L' = L))
theorem CF184.mono {h g : PH} {w : Value} {f : Int→Int→Int→Int→Option Bool} (c : CF184 h w f) (l : Le h g) : CF184 g w f:=⟨c.1,c.2.imp id fun ⟨fid,us,vs,e,k⟩=>⟨fid,us,vs,e,fun h' l'=>k h' (l.trans l')⟩⟩
theorem CF184.call {h : PH} {w : Value} {f : Int→Int→Int→Int→Option Bool} (c : CF184 h w f) {x0 : Int} {x1 : Int} {x2 : Int} {x3 : Int} {r_0 : Bool} (H : f x0 x1 x2 x3 = some r_0) : ∃ fid us vs,w = .func (.func fid) us.toArray vs.toArray∧∀ L : List HProp,FnS Tryz.prog fid (us ++ [.int .i64 x0,.int .i64 x1,.int .i64 x2,.int .i64 x3] ++ vs) h L (fun v h' L'=>v = .bool r_0∧L' = L):=by
  rcases c.2 with n | ⟨fid,us,vs,e,k⟩
  · rw [n] at H; cases H
  · exact ⟨fid,us,vs,e,k h (Le.refl h) H⟩
def CF185 (h : PH) (w : Value) (f : Int→Int→Option (List (Int→Option Int))) : Prop:=(w.oneCell' = true∧w.cells = [w].toArray)∧((∀ (x0 : Int) (x1 : Int),f x0 x1 = none)∨∃ fid us vs,w = .func (.func fid) us.toArray vs.toArray∧∀ h',Le h h'→∀ {x0 : Int} {x1 : Int} {r_0 : List (Int→Option Int)} (H : f x0 x1 = some r_0) (L : List HProp),FnS Tryz.prog fid (us ++ [.int .i64 x0,.int .i64 x1] ++ vs) h' L (fun v h' L'=>L' = L∧Slc VF71 1 h' v r_0))
theorem CF185.mono {h g : PH} {w : Value} {f : Int→Int→Option (List (Int→Option Int))} (c : CF185 h w f) (l : Le h g) : CF185 g w f:=⟨c.1,c.2.imp id fun ⟨fid,us,vs,e,k⟩=>⟨fid,us,vs,e,fun h' l'=>k h' (l.trans l')⟩⟩
theorem CF185.call {h : PH} {w : Value} {f : Int→Int→Option (List (Int→Option Int))} (c : CF185 h w f) {x0 : Int} {x1 : Int} {r_0 : List (Int→Option Int)} (H : f x0 x1 = some r_0) : ∃ fid us vs,w = .func (.func fid) us.toArray vs.toArray∧∀ L : List HProp,FnS Tryz.prog fid (us ++ [.int .i64 x0,.int .i64 x1] ++ vs) h L (fun v h' L'=>L' = L∧Slc VF71 1 h' v r_0):=by
  rcases c.2 with n | ⟨fid,us,vs,e,k⟩
  · rw [n] at H; cases H
  · exact ⟨fid,us,vs,e,k h (Le.refl h) H⟩
def VguestBook : Vr guestBook:=fun h cs x=>∃ v1 v3 v5,cs = [v1,v3,v5]∧Slc VapiGuest 9 h v1 x.fcontent.fguests∧Slc VapiTie 3 h v3 x.fcontent.fties∧Mp Value.string false (VI .i64) h v5 x.fat
theorem VguestBook.mono : Mono VguestBook:=fun h g cs x l ⟨v1,v3,v5,e,hS2,hS4,hM6⟩=>⟨v1,v3,v5,e,Slc.mono VapiGuest.mono hS2 l,Slc.mono VapiTie.mono hS4 l,Mp.mono VI.mono hM6 l⟩
def CF170 (h : PH) (w : Value) (f : apiTie→apiTie→Option Int) : Prop:=(w.oneCell' = true∧w.cells = [w].toArray)∧((∀ (x0 : apiTie) (x1 : apiTie),f x0 x1 = none)∨∃ fid us vs,w = .func (.func fid) us.toArray vs.toArray∧∀ h',Le h h'→∀ {pc0 : List Value} {x0 : apiTie} (pr0 : VapiTie h' pc0 x0) {pc1 : List Value} {x1 : apiTie} (pr1 : VapiTie h' pc1 x1) {r_0 : Int} (H : f x0 x1 = some r_0) (L : List HProp),FnS Tryz.prog fid (us ++ [.agg pc0.toArray,.agg pc1.toArray] ++ vs) h' L (fun v h' L'=>v = .int .i64 r_0∧L' = L))
theorem CF170.mono {h g : PH} {w : Value} {f : apiTie→apiTie→Option Int} (c : CF170 h w f) (l : Le h g) : CF170 g w f:=⟨c.1,c.2.imp id fun ⟨fid,us,vs,e,k⟩=>⟨fid,us,vs,e,fun h' l'=>k h' (l.trans l')⟩⟩
theorem CF170.call {h : PH} {w : Value} {f : apiTie→apiTie→Option Int} (c : CF170 h w f) {pc0 : List Value} {x0 : apiTie} (pr0 : VapiTie h pc0 x0) {pc1 : List Value} {x1 : apiTie} (pr1 : VapiTie h pc1 x1) {r_0 : Int} (H : f x0 x1 = some r_0) : ∃ fid us vs,w = .func (.func fid) us.toArray vs.toArray∧∀ L : List HProp,FnS Tryz.prog fid (us ++ [.agg pc0.toArray,.agg pc1.toArray] ++ vs) h L (fun v h' L'=>v = .int .i64 r_0∧L' = L):=by
  rcases c.2 with n | ⟨fid,us,vs,e,k⟩
  · rw [n] at H; cases H
  · exact ⟨fid,us,vs,e,k h (Le.refl h) pr0 pr1 H⟩
def VapiRoll : Vr apiRoll:=fun h cs x=>∃ v1 v3,cs = [v1,v3]∧Slc VapiGuest 9 h v1 x.fGuests∧Slc VapiTie 3 h v3 x.fTies
def VapiProblem : Vr apiProblem:=fun h cs x=>∃ v1 v3 v5 v7 v9,cs = [v1,v3,v5,v7,v9]∧Slc VapiTable 7 h v1 x.fTables∧Slc VapiGuest 9 h v3 x.fGuests∧Slc VapiTie 3 h v5 x.fTies∧Slc (VI .i64) 1 h v7 x.fClass∧Slc VapiRule 6 h v9 x.fRules
def Vrulekind : Vr rulekind:=fun h cs x=>cs = [.string x.fword,.int .u8 x.fa,.bool x.fb,.int .u8 x.ft,.bool x.fn,.int .i64 x.flo,.bool x.fseat,(fnV x.ffind)]
theorem Vrulekind.mono : Mono Vrulekind:=fun h g cs x l e=>e
def VruleJudge : Vr ruleJudge:=fun h cs x=>∃ v1 v3 v5 v7 v9 v11 v13 v15 v17 v19 v21 v23 v25 v27,cs = [v1,v3,v5,v7,v9,v11,v13,v15,v17,v19,v21,v23,v25,v27]∧Slc VapiTable 7 h v1 x.fgiven.fTables∧Slc VapiGuest 9 h v3 x.fgiven.fGuests∧Slc VapiTie 3 h v5 x.fgiven.fTies∧Slc (VI .i64) 1 h v7 x.fgiven.fClass∧Slc VapiRule 6 h v9 x.fgiven.fRules∧Mp (Value.int .u8) true Vrulekind h v11 x.fkinds∧Slc (VI .i64) 1 h v13 x.ftable∧Slc (VI .i64) 1 h v15 x.flevel∧Slc VB 1 h v17 x.fopen∧Slc (VSl (VI .i64) 1) 1 h v19 x.fbeside∧Slc (VSl (VI .i64) 1) 1 h v21 x.facross∧Slc (VMp (Value.int .i64) false (VI .i64)) 1 h v23 x.fsteps∧Slc (VSl VB 1) 1 h v25 x.fcommon∧Slc (VSl (VI .u8) 1) 1 h v27 x.fties
theorem VruleJudge.mono : Mono VruleJudge:=fun h g cs x l ⟨v1,v3,v5,v7,v9,v11,v13,v15,v17,v19,v21,v23,v25,v27,e,hS2,hS4,hS6,hS8,hS10,hM12,hS14,hS16,hS18,hS20,hS22,hS24,hS26,hS28⟩=>⟨v1,v3,v5,v7,v9,v11,v13,v15,v17,v19,v21,v23,v25,v27,e,Slc.mono VapiTable.mono hS2 l,Slc.mono VapiGuest.mono hS4 l,Slc.mono VapiTie.mono hS6 l,Slc.mono VI.mono hS8 l,Slc.mono VapiRule.mono hS10 l,Mp.mono Vrulekind.mono hM12 l,Slc.mono VI.mono hS14 l,Slc.mono VI.mono hS16 l,Slc.mono VB.mono hS18 l,Slc.mono (VSl.mono VI.mono) hS20 l,Slc.mono (VSl.mono VI.mono) hS22 l,Slc.mono (VMp.mono VI.mono) hS24 l,Slc.mono (VSl.mono VB.mono) hS26 l,Slc.mono (VSl.mono VI.mono) hS28 l⟩
def Vruleview : Vr ruleview:=fun h cs x=>∃ v1 v3 v5,cs = [v1,v3,v5]∧Pt VruleJudge h v1 x.fJudge∧Slc (VI .i64) 1 h v3 x.fpart∧Slc (VI .i64) 1 h v5 x.fguest
theorem Vruleview.mono : Mono Vruleview:=fun h g cs x l ⟨v1,v3,v5,e,hP2,hS4,hS6⟩=>⟨v1,v3,v5,e,Pt.mono VruleJudge.mono hP2 l,Slc.mono VI.mono hS4 l,Slc.mono VI.mono hS6 l⟩
def CY211 {σ : Type} (R : σ→PH→List HProp→Prop) (h : PH) (w : Value) (f : σ→Int→(List Int)→Option σ) : Prop:=(w.oneCell' = true∧w.cells = [w].toArray)∧(∀ s h h' La,Le h h'→R s h La→R s h' La)∧∀ h',Le h h'→∀ {x0 : Int} {pv1 : Value} {x1 : List Int} (pr1 : Slc (VI .i64) 1 h' pv1 x1) {s s' : σ} {La : List HProp}  (hR : R s h' La) (H : f s x0 x1 = some s') (As L : List HProp),Yld Tryz.prog w [.int .i64 x0,pv1] h' (As ++ (La ++ L)) (fun v h2 L'=>∃ La',v = .tuple #[]∧L' = As ++ (La' ++ L)∧R s' h2 La')
theorem CY211.mono {σ : Type} {R : σ→PH→List HProp→Prop} {h g : PH} {w : Value} {f : σ→Int→(List Int)→Option σ} (c : CY211 R h w f) (l : Le h g) : CY211 R g w f:=⟨c.1,c.2.1,fun h' l'=>c.2.2 h' (l.trans l')⟩
theorem CY211.call {σ : Type} {R : σ→PH→List HProp→Prop} {h : PH} {w : Value} {f : σ→Int→(List Int)→Option σ} (c : CY211 R h w f) : ∀ {x0 : Int} {pv1 : Value} {x1 : List Int} (pr1 : Slc (VI .i64) 1 h pv1 x1) {s s' : σ} {La : List HProp}  (hR : R s h La) (H : f s x0 x1 = some s') (As L : List HProp),Yld Tryz.prog w [.int .i64 x0,pv1] h (As ++ (La ++ L)) (fun v h2 L'=>∃ La',v = .tuple #[]∧L' = As ++ (La' ++ L)∧R s' h2 La'):=fun pr1=>fun hR H As L=>c.2.2 h (Le.refl h) pr1 hR H As L
def CF266 (h : PH) (w : Value) (f : ruleview→Int→Option Int) : Prop:=(w.oneCell' = true∧w.cells = [w].toArray)∧((∀ (x0 : ruleview) (x1 : Int),f x0 x1 = none)∨∃ fid us vs,w = .func (.func fid) us.toArray vs.toArray∧∀ h',Le h h'→∀ {pv0 : Value} {x0 : ruleview} (pr0 : Pt Vruleview h' pv0 x0) {x1 : Int} {r_0 : Int} (H : f x0 x1 = some r_0) (L : List HProp),FnS Tryz.prog fid (us ++ [pv0,.int .i64 x1] ++ vs) h' L (fun v h' L'=>v = .int .i64 r_0∧L' = L))
theorem CF266.mono {h g : PH} {w : Value} {f : ruleview→Int→Option Int} (c : CF266 h w f) (l : Le h g) : CF266 g w f:=⟨c.1,c.2.imp id fun ⟨fid,us,vs,e,k⟩=>⟨fid,us,vs,e,fun h' l'=>k h' (l.trans l')⟩⟩
theorem CF266.call {h : PH} {w : Value} {f : ruleview→Int→Option Int} (c : CF266 h w f) {pv0 : Value} {x0 : ruleview} (pr0 : Pt Vruleview h pv0 x0) {x1 : Int} {r_0 : Int} (H : f x0 x1 = some r_0) : ∃ fid us vs,w = .func (.func fid) us.toArray vs.toArray∧∀ L : List HProp,FnS Tryz.prog fid (us ++ [pv0,.int .i64 x1] ++ vs) h L (fun v h' L'=>v = .int .i64 r_0∧L' = L):=by
  rcases c.2 with n | ⟨fid,us,vs,e,k⟩
  · rw [n] at H; cases H
  · exact ⟨fid,us,vs,e,k h (Le.refl h) pr0 H⟩
def CY367 {σ : Type} (R : σ→PH→List HProp→Prop) (h : PH) (w : Value) (f : σ→(List Int)→Option (σ×Bool)) : Prop:=(w.oneCell' = true∧w.cells = [w].toArray)∧(∀ s h h' La,Le h h'→R s h La→R s h' La)∧∀ h',Le h h'→∀ {pv0 : Value} {x0 : List Int} (pr0 : Slc (VI .i64) 1 h' pv0 x0) {s s' : σ} {La : List HProp} {r_0 : Bool} (hR : R s h' La) (H : f s x0 = some (s',r_0)) (As L : List HProp),Yld Tryz.prog w [pv0] h' (As ++ (La ++ L)) (fun v h2 L'=>∃ La',v = .bool r_0∧L' = As ++ (La' ++ L)∧R s' h2 La')
theorem CY367.mono {σ : Type} {R : σ→PH→List HProp→Prop} {h g : PH} {w : Value} {f : σ→(List Int)→Option (σ×Bool)} (c : CY367 R h w f) (l : Le h g) : CY367 R g w f:=⟨c.1,c.2.1,fun h' l'=>c.2.2 h' (l.trans l')⟩
theorem CY367.call {σ : Type} {R : σ→PH→List HProp→Prop} {h : PH} {w : Value} {f : σ→(List Int)→Option (σ×Bool)} (c : CY367 R h w f) : ∀ {pv0 : Value} {x0 : List Int} (pr0 : Slc (VI .i64) 1 h pv0 x0) {s s' : σ} {La : List HProp} {r_0 : Bool} (hR : R s h La) (H : f s x0 = some (s',r_0)) (As L : List HProp),Yld Tryz.prog w [pv0] h (As ++ (La ++ L)) (fun v h2 L'=>∃ La',v = .bool r_0∧L' = As ++ (La' ++ L)∧R s' h2 La'):=fun pr0=>fun hR H As L=>c.2.2 h (Le.refl h) pr0 hR H As L
def Vsearchhunt : Vr searchhunt:=fun h cs x=>∃ v1 v3 v5 v7 v9 v11 v13 v15 v17,cs = [v1,v3,v5,v7,v9,v11,v13,v15,v17]∧Pt VruleJudge h v1 x.fJudge∧Slc VapiTable 7 h v3 x.fp.fTables∧Slc VapiGuest 9 h v5 x.fp.fGuests∧Slc VapiTie 3 h v7 x.fp.fTies∧Slc (VI .i64) 1 h v9 x.fp.fClass∧Slc VapiRule 6 h v11 x.fp.fRules∧Slc (VI .i64) 1 h v13 x.ftable∧Slc (VI .i64) 1 h v15 x.ffirst∧Slc (VSl (VSl (VI .i64) 1) 1) 1 h v17 x.fgroups
theorem Vsearchhunt.mono : Mono Vsearchhunt:=fun h g cs x l ⟨v1,v3,v5,v7,v9,v11,v13,v15,v17,e,hP2,hS4,hS6,hS8,hS10,hS12,hS14,hS16,hS18⟩=>⟨v1,v3,v5,v7,v9,v11,v13,v15,v17,e,Pt.mono VruleJudge.mono hP2 l,Slc.mono VapiTable.mono hS4 l,Slc.mono VapiGuest.mono hS6 l,Slc.mono VapiTie.mono hS8 l,Slc.mono VI.mono hS10 l,Slc.mono VapiRule.mono hS12 l,Slc.mono VI.mono hS14 l,Slc.mono VI.mono hS16 l,Slc.mono (VSl.mono (VSl.mono VI.mono)) hS18 l⟩
def VapiStep : Vr apiStep:=fun h cs x=>cs = [.int .u8 x.fKind,.int .i64 x.fN]
theorem VapiStep.mono : Mono VapiStep:=fun h g cs x l e=>e
theorem VapiStep.plain : Plain VapiStep:=fun h cs x e=>by rw [show cs = _ from e]; rfl
def Vrepairscene : Vr repairscene:=fun h cs x=>∃ v1 v3 v5 v7 v9 v11 v13,cs = [v1,v3,v5,v7,v9,v11,v13,.int .i64 x.fseats]∧Pt VruleJudge h v1 x.fJudge∧Slc VapiTable 7 h v3 x.fp.fTables∧Slc VapiGuest 9 h v5 x.fp.fGuests∧Slc VapiTie 3 h v7 x.fp.fTies∧Slc (VI .i64) 1 h v9 x.fp.fClass∧Slc VapiRule 6 h v11 x.fp.fRules∧Slc (VI .i64) 1 h v13 x.fpart
theorem Vrepairscene.mono : Mono Vrepairscene:=fun h g cs x l ⟨v1,v3,v5,v7,v9,v11,v13,e,hP2,hS4,hS6,hS8,hS10,hS12,hS14⟩=>⟨v1,v3,v5,v7,v9,v11,v13,e,Pt.mono VruleJudge.mono hP2 l,Slc.mono VapiTable.mono hS4 l,Slc.mono VapiGuest.mono hS6 l,Slc.mono VapiTie.mono hS8 l,Slc.mono VI.mono hS10 l,Slc.mono VapiRule.mono hS12 l,Slc.mono VI.mono hS14 l⟩
def CF165 (h : PH) (w : Value) (f : apiTie→Option Bool) : Prop:=(w.oneCell' = true∧w.cells = [w].toArray)∧((∀ (x0 : apiTie),f x0 = none)∨∃ fid us vs,w = .func (.func fid) us.toArray vs.toArray∧∀ h',Le h h'→∀ {pc0 : List Value} {x0 : apiTie} (pr0 : VapiTie h' pc0 x0) {r_0 : Bool} (H : f x0 = some r_0) (L : List HProp),FnS Tryz.prog fid (us ++ [.agg pc0.toArray] ++ vs) h' L (fun v h' L'=>v = .bool r_0∧L' = L))
def CF74 (h : PH) (w : Value) (f : apiRule→Option Bool) : Prop:=(w.oneCell' = true∧w.cells = [w].toArray)∧((∀ (x0 : apiRule),f x0 = none)∨∃ fid us vs,w = .func (.func fid) us.toArray vs.toArray∧∀ h',Le h h'→∀ {pc0 : List Value} {x0 : apiRule} (pr0 : VapiRule h' pc0 x0) {r_0 : Bool} (H : f x0 = some r_0) (L : List HProp),FnS Tryz.prog fid (us ++ [.agg pc0.toArray] ++ vs) h' L (fun v h' L'=>v = .bool r_0∧L' = L))
theorem CF74.mono {h g : PH} {w : Value} {f : apiRule→Option Bool} (c : CF74 h w f) (l : Le h g) : CF74 g w f:=⟨c.1,c.2.imp id fun ⟨fid,us,vs,e,k⟩=>⟨fid,us,vs,e,fun h' l'=>k h' (l.trans l')⟩⟩
theorem CF74.call {h : PH} {w : Value} {f : apiRule→Option Bool} (c : CF74 h w f) {pc0 : List Value} {x0 : apiRule} (pr0 : VapiRule h pc0 x0) {r_0 : Bool} (H : f x0 = some r_0) : ∃ fid us vs,w = .func (.func fid) us.toArray vs.toArray∧∀ L : List HProp,FnS Tryz.prog fid (us ++ [.agg pc0.toArray] ++ vs) h L (fun v h' L'=>v = .bool r_0∧L' = L):=by
  rcases c.2 with n | ⟨fid,us,vs,e,k⟩
  · rw [n] at H; cases H
  · exact ⟨fid,us,vs,e,k h (Le.refl h) pr0 H⟩
def VapiChange : Vr apiChange:=fun h cs x=>∃ v1,cs = [.int .u8 x.fKind,.string x.fGuest.fName,.string x.fGuest.fRank,.string x.fGuest.fCourt,.int .i64 x.fGuest.fSince,.int .i64 x.fGuest.fSide,.string x.fGuest.fDiet,.bool x.fGuest.fHost,.bool x.fGuest.fAccess,v1,.string x.fA,.string x.fB,.string x.fTable,.int .i64 x.fN,.int .u8 x.fRule.fKind,.int .i64 x.fRule.fWeight,.string x.fRule.fA,.string x.fRule.fB,.string x.fRule.fTable,.int .i64 x.fRule.fN]∧Slc VS 1 h v1 x.fGuest.fTongues
theorem VapiChange.mono : Mono VapiChange:=fun h g cs x l ⟨v1,e,hS2⟩=>⟨v1,e,Slc.mono VS.mono hS2 l⟩
end Go.Dm
