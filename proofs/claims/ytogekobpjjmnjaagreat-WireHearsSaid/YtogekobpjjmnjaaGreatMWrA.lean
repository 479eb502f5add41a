/- The walks over package wire: among, Fields, blank. -/
import Derived.Test.YtogekobpjjmnjaaGreatMWrP
import Derived.Test.YtogekobpjjmnjaaGreatMLib
import Derived.Test.YtogekobpjjmnjaaGreatMBlA
import Derived.Laws.StructEq
import Derived.Lib.OthersKept
import Derived.Deep.LoopGhost
namespace Go.Proofs.YtogekobpjjmnjaaGreat
open Go.RowKit Go.Amb
set_option linter.unusedVariables false
set_option linter.unusedSimpArgs false
set_option maxRecDepth 100000
/-- A request's cells; pv: its parts. -/
def rqC (q : Rq) (pv : Value) : Array Value := #[.int .i64 q.kind, .int .i64 q.session, .string ⟨q.bucket.toArray⟩, .string ⟨q.object.toArray⟩, .string ⟨q.version.toArray⟩, .string ⟨q.pre.toArray⟩, .string ⟨q.delim.toArray⟩, .string ⟨q.body.toArray⟩, .int .i64 q.ck, .int .i64 q.re, .int .i64 q.im, .int .i64 q.id, .int .i64 q.n, pv]
def rqV (q : Rq) (pv : Value) : Value := .agg (rqC q pv)
theorem wAmong (n most : Int) (w : World) : Calls Tryz.prog 79 #[.int .i64 n, .int .i64 most] w (Ret (.bool (decide (0 ≤ n ∧ n ≤ most))) w) := by
  by_cases h0 : 0 ≤ n
  · have e : decide (0 ≤ n ∧ n ≤ most) = decide (n ≤ most) := by simp [h0]
    rw [e]
    clear e
    go_enter Tryz.func79, Tryz.ntmps79
    go_wp2_with fail
    go_ret
    exact ⟨rfl, Upd.refl _ _⟩
  · have e : decide (0 ≤ n ∧ n ≤ most) = false := by simp [h0]
    have h0b : decide (0 ≤ n) = false := decide_eq_false h0
    rw [e]
    clear e
    go_enter Tryz.func79, Tryz.ntmps79
    go_wp2_with fail
    go_ret
    exact ⟨rfl, Upd.refl _ _⟩
set_option maxHeartbeats 4000000 in
theorem wFields (k : Int) (w : World) : Calls Tryz.prog 69 #[.int .i64 k] w (Ret (.string ⟨(lets k).toArray⟩) w) := by
  by_cases h2 : k = 2
  · subst h2
    show Calls _ _ _ _ (Ret (.string ⟨(lets 2).toArray⟩) w)
    go_enter Tryz.func69, Tryz.ntmps69
    go_wp2_with fail
    go_ret
    exact ⟨rfl, Upd.refl _ _⟩
  have b2 : (k == 2) = false := by simp [h2]
  by_cases h3 : k = 3
  · subst h3
    show Calls _ _ _ _ (Ret (.string ⟨(lets 3).toArray⟩) w)
    go_enter Tryz.func69, Tryz.ntmps69
    go_wp2_with fail
    go_ret
    exact ⟨rfl, Upd.refl _ _⟩
  have b3 : (k == 3) = false := by simp [h3]
  by_cases h4 : k = 4
  · subst h4
    show Calls _ _ _ _ (Ret (.string ⟨(lets 4).toArray⟩) w)
    go_enter Tryz.func69, Tryz.ntmps69
    go_wp2_with fail
    go_ret
    exact ⟨rfl, Upd.refl _ _⟩
  have b4 : (k == 4) = false := by simp [h4]
  by_cases h5 : k = 5
  · subst h5
    show Calls _ _ _ _ (Ret (.string ⟨(lets 5).toArray⟩) w)
    go_enter Tryz.func69, Tryz.ntmps69
    go_wp2_with fail
    go_ret
    exact ⟨rfl, Upd.refl _ _⟩
  have b5 : (k == 5) = false := by simp [h5]
  by_cases h6 : k = 6
  · subst h6
    show Calls _ _ _ _ (Ret (.string ⟨(lets 6).toArray⟩) w)
    go_enter Tryz.func69, Tryz.ntmps69
    go_wp2_with fail
    go_ret
    exact ⟨rfl, Upd.refl _ _⟩
  have b6 : (k == 6) = false := by simp [h6]
  by_cases h7 : k = 7
  · subst h7
    show Calls _ _ _ _ (Ret (.string ⟨(lets 7).toArray⟩) w)
    go_enter Tryz.func69, Tryz.ntmps69
    go_wp2_with fail
    go_ret
    exact ⟨rfl, Upd.refl _ _⟩
  have b7 : (k == 7) = false := by simp [h7]
  by_cases h8 : k = 8
  · subst h8
    show Calls _ _ _ _ (Ret (.string ⟨(lets 8).toArray⟩) w)
    go_enter Tryz.func69, Tryz.ntmps69
    go_wp2_with fail
    go_ret
    exact ⟨rfl, Upd.refl _ _⟩
  have b8 : (k == 8) = false := by simp [h8]
  by_cases h9 : k = 9
  · subst h9
    show Calls _ _ _ _ (Ret (.string ⟨(lets 9).toArray⟩) w)
    go_enter Tryz.func69, Tryz.ntmps69
    go_wp2_with fail
    go_ret
    exact ⟨rfl, Upd.refl _ _⟩
  have b9 : (k == 9) = false := by simp [h9]
  by_cases h10 : k = 10
  · subst h10
    show Calls _ _ _ _ (Ret (.string ⟨(lets 10).toArray⟩) w)
    go_enter Tryz.func69, Tryz.ntmps69
    go_wp2_with fail
    go_ret
    exact ⟨rfl, Upd.refl _ _⟩
  have b10 : (k == 10) = false := by simp [h10]
  by_cases h11 : k = 11
  · subst h11
    show Calls _ _ _ _ (Ret (.string ⟨(lets 11).toArray⟩) w)
    go_enter Tryz.func69, Tryz.ntmps69
    go_wp2_with fail
    go_ret
    exact ⟨rfl, Upd.refl _ _⟩
  have b11 : (k == 11) = false := by simp [h11]
  by_cases h12 : k = 12
  · subst h12
    show Calls _ _ _ _ (Ret (.string ⟨(lets 12).toArray⟩) w)
    go_enter Tryz.func69, Tryz.ntmps69
    go_wp2_with fail
    go_ret
    exact ⟨rfl, Upd.refl _ _⟩
  have b12 : (k == 12) = false := by simp [h12]
  by_cases h13 : k = 13
  · subst h13
    show Calls _ _ _ _ (Ret (.string ⟨(lets 13).toArray⟩) w)
    go_enter Tryz.func69, Tryz.ntmps69
    go_wp2_with fail
    go_ret
    exact ⟨rfl, Upd.refl _ _⟩
  have b13 : (k == 13) = false := by simp [h13]
  by_cases h14 : k = 14
  · subst h14
    show Calls _ _ _ _ (Ret (.string ⟨(lets 14).toArray⟩) w)
    go_enter Tryz.func69, Tryz.ntmps69
    go_wp2_with fail
    go_ret
    exact ⟨rfl, Upd.refl _ _⟩
  have b14 : (k == 14) = false := by simp [h14]
  by_cases h15 : k = 15
  · subst h15
    show Calls _ _ _ _ (Ret (.string ⟨(lets 15).toArray⟩) w)
    go_enter Tryz.func69, Tryz.ntmps69
    go_wp2_with fail
    go_ret
    exact ⟨rfl, Upd.refl _ _⟩
  have b15 : (k == 15) = false := by simp [h15]
  by_cases h16 : k = 16
  · subst h16
    show Calls _ _ _ _ (Ret (.string ⟨(lets 16).toArray⟩) w)
    go_enter Tryz.func69, Tryz.ntmps69
    go_wp2_with fail
    go_ret
    exact ⟨rfl, Upd.refl _ _⟩
  have b16 : (k == 16) = false := by simp [h16]
  by_cases h17 : k = 17
  · subst h17
    show Calls _ _ _ _ (Ret (.string ⟨(lets 17).toArray⟩) w)
    go_enter Tryz.func69, Tryz.ntmps69
    go_wp2_with fail
    go_ret
    exact ⟨rfl, Upd.refl _ _⟩
  have b17 : (k == 17) = false := by simp [h17]
  by_cases h18 : k = 18
  · subst h18
    show Calls _ _ _ _ (Ret (.string ⟨(lets 18).toArray⟩) w)
    go_enter Tryz.func69, Tryz.ntmps69
    go_wp2_with fail
    go_ret
    exact ⟨rfl, Upd.refl _ _⟩
  have b18 : (k == 18) = false := by simp [h18]
  by_cases h19 : k = 19
  · subst h19
    show Calls _ _ _ _ (Ret (.string ⟨(lets 19).toArray⟩) w)
    go_enter Tryz.func69, Tryz.ntmps69
    go_wp2_with fail
    go_ret
    exact ⟨rfl, Upd.refl _ _⟩
  have b19 : (k == 19) = false := by simp [h19]
  by_cases h20 : k = 20
  · subst h20
    show Calls _ _ _ _ (Ret (.string ⟨(lets 20).toArray⟩) w)
    go_enter Tryz.func69, Tryz.ntmps69
    go_wp2_with fail
    go_ret
    exact ⟨rfl, Upd.refl _ _⟩
  have b20 : (k == 20) = false := by simp [h20]
  by_cases h21 : k = 21
  · subst h21
    show Calls _ _ _ _ (Ret (.string ⟨(lets 21).toArray⟩) w)
    go_enter Tryz.func69, Tryz.ntmps69
    go_wp2_with fail
    go_ret
    exact ⟨rfl, Upd.refl _ _⟩
  have b21 : (k == 21) = false := by simp [h21]
  by_cases h22 : k = 22
  · subst h22
    show Calls _ _ _ _ (Ret (.string ⟨(lets 22).toArray⟩) w)
    go_enter Tryz.func69, Tryz.ntmps69
    go_wp2_with fail
    go_ret
    exact ⟨rfl, Upd.refl _ _⟩
  have b22 : (k == 22) = false := by simp [h22]
  have e : lets k = [] := by unfold lets; simp only [h2, h3, h4, h5, h6, h7, h8, h9, h10, h11, h12, h13, h14, h15, h16, h17, h18, h19, h20, h21, h22, if_false]
  rw [e]
  clear e h2 h3 h4 h5 h6 h7 h8 h9 h10 h11 h12 h13 h14 h15 h16 h17 h18 h19 h20 h21 h22
  go_enter Tryz.func69, Tryz.ntmps69
  go_wp2_with fail
  go_ret
  exact ⟨rfl, Upd.refl _ _⟩
end Go.Proofs.YtogekobpjjmnjaaGreat

namespace Go.Proofs.YtogekobpjjmnjaaGreat
open Go.RowKit Go.Amb
set_option linter.unusedVariables false
set_option linter.unusedSimpArgs false
set_option maxRecDepth 100000
/-- What blank leaves at M. -/
def Blanked (M : Nat) (x : Array Value) (w : World) : Ending → World → Prop := fun en w' => en = .returned (.tuple #[]) ∧ w'.heap[M]? = some (.cells x 86 (0, 0)) ∧ Upd (fun k => k = M) w w'
def pvB (c : UInt8) (pv : Value) : Value := if c = 76 then .slice none 0 0 else pv
set_option maxHeartbeats 4000000 in
theorem wBlank (q : Rq) (pv : Value) (M : Nat) (c : UInt8) (w : World) (h : w.heap[M]? = some (.cells (rqC q pv) 86 (0, 0))) :
    Calls Tryz.prog 90 #[.pointer (some ⟨M, 0, none⟩), .int .i32 (c.toNat : Int)] w (Blanked M (rqC (blankQ q c) (pvB c pv)) w) := by
  by_cases h83 : c = 83
  · subst h83
    obtain ⟨c0, f0⟩ := cells_of h
    have z : w.cell? ⟨M, 1, none⟩ = (rqC q pv)[1]? := c0 1
    have zf := f0 1
    have hs := Lib.hid (set_blk (j := 1) h (.int .i64 0))
    have hu := Lib.hid (Upd.setCell (S := fun k => k = M) w (a := ⟨M, 1, none⟩) rfl (.int .i64 0))
    unfold rqC at z
    simp only [List.getElem?_toArray, List.getElem?_cons_succ, List.getElem?_cons_zero] at z
    clear c0 f0 h
    show Calls _ _ #[_, .int .i32 83] _ _
    go_enter Tryz.func90, Tryz.ntmps90
    go_wp2_with fail
    go_returns
    exact ⟨rfl, hs.out, hu.out⟩
  have b83 : ((c.toNat : Int) == 83) = false := by
    simp
    intro e
    exact h83 (UInt8.toNat_inj.1 (by show c.toNat = 83; omega))
  by_cases h66 : c = 66
  · subst h66
    obtain ⟨c0, f0⟩ := cells_of h
    have z : w.cell? ⟨M, 2, none⟩ = (rqC q pv)[2]? := c0 2
    have zf := f0 2
    have hs := Lib.hid (set_blk (j := 2) h (.string ⟨#[]⟩))
    have hu := Lib.hid (Upd.setCell (S := fun k => k = M) w (a := ⟨M, 2, none⟩) rfl (.string ⟨#[]⟩))
    unfold rqC at z
    simp only [List.getElem?_toArray, List.getElem?_cons_succ, List.getElem?_cons_zero] at z
    clear c0 f0 h
    show Calls _ _ #[_, .int .i32 66] _ _
    go_enter Tryz.func90, Tryz.ntmps90
    go_wp2_with fail
    go_returns
    exact ⟨rfl, hs.out, hu.out⟩
  have b66 : ((c.toNat : Int) == 66) = false := by
    simp
    intro e
    exact h66 (UInt8.toNat_inj.1 (by show c.toNat = 66; omega))
  by_cases h79 : c = 79
  · subst h79
    obtain ⟨c0, f0⟩ := cells_of h
    have z : w.cell? ⟨M, 3, none⟩ = (rqC q pv)[3]? := c0 3
    have zf := f0 3
    have hs := Lib.hid (set_blk (j := 3) h (.string ⟨#[]⟩))
    have hu := Lib.hid (Upd.setCell (S := fun k => k = M) w (a := ⟨M, 3, none⟩) rfl (.string ⟨#[]⟩))
    unfold rqC at z
    simp only [List.getElem?_toArray, List.getElem?_cons_succ, List.getElem?_cons_zero] at z
    clear c0 f0 h
    show Calls _ _ #[_, .int .i32 79] _ _
    go_enter Tryz.func90, Tryz.ntmps90
    go_wp2_with fail
    go_returns
    exact ⟨rfl, hs.out, hu.out⟩
  have b79 : ((c.toNat : Int) == 79) = false := by
    simp
    intro e
    exact h79 (UInt8.toNat_inj.1 (by show c.toNat = 79; omega))
  by_cases h86 : c = 86
  · subst h86
    obtain ⟨c0, f0⟩ := cells_of h
    have z : w.cell? ⟨M, 4, none⟩ = (rqC q pv)[4]? := c0 4
    have zf := f0 4
    have hs := Lib.hid (set_blk (j := 4) h (.string ⟨#[]⟩))
    have hu := Lib.hid (Upd.setCell (S := fun k => k = M) w (a := ⟨M, 4, none⟩) rfl (.string ⟨#[]⟩))
    unfold rqC at z
    simp only [List.getElem?_toArray, List.getElem?_cons_succ, List.getElem?_cons_zero] at z
    clear c0 f0 h
    show Calls _ _ #[_, .int .i32 86] _ _
    go_enter Tryz.func90, Tryz.ntmps90
    go_wp2_with fail
    go_returns
    exact ⟨rfl, hs.out, hu.out⟩
  have b86 : ((c.toNat : Int) == 86) = false := by
    simp
    intro e
    exact h86 (UInt8.toNat_inj.1 (by show c.toNat = 86; omega))
  by_cases h80 : c = 80
  · subst h80
    obtain ⟨c0, f0⟩ := cells_of h
    have z : w.cell? ⟨M, 5, none⟩ = (rqC q pv)[5]? := c0 5
    have zf := f0 5
    have hs := Lib.hid (set_blk (j := 5) h (.string ⟨#[]⟩))
    have hu := Lib.hid (Upd.setCell (S := fun k => k = M) w (a := ⟨M, 5, none⟩) rfl (.string ⟨#[]⟩))
    unfold rqC at z
    simp only [List.getElem?_toArray, List.getElem?_cons_succ, List.getElem?_cons_zero] at z
    clear c0 f0 h
    show Calls _ _ #[_, .int .i32 80] _ _
    go_enter Tryz.func90, Tryz.ntmps90
    go_wp2_with fail
    go_returns
    exact ⟨rfl, hs.out, hu.out⟩
  have b80 : ((c.toNat : Int) == 80) = false := by
    simp
    intro e
    exact h80 (UInt8.toNat_inj.1 (by show c.toNat = 80; omega))
  by_cases h68 : c = 68
  · subst h68
    obtain ⟨c0, f0⟩ := cells_of h
    have z : w.cell? ⟨M, 6, none⟩ = (rqC q pv)[6]? := c0 6
    have zf := f0 6
    have hs := Lib.hid (set_blk (j := 6) h (.string ⟨#[]⟩))
    have hu := Lib.hid (Upd.setCell (S := fun k => k = M) w (a := ⟨M, 6, none⟩) rfl (.string ⟨#[]⟩))
    unfold rqC at z
    simp only [List.getElem?_toArray, List.getElem?_cons_succ, List.getElem?_cons_zero] at z
    clear c0 f0 h
    show Calls _ _ #[_, .int .i32 68] _ _
    go_enter Tryz.func90, Tryz.ntmps90
    go_wp2_with fail
    go_returns
    exact ⟨rfl, hs.out, hu.out⟩
  have b68 : ((c.toNat : Int) == 68) = false := by
    simp
    intro e
    exact h68 (UInt8.toNat_inj.1 (by show c.toNat = 68; omega))
  by_cases h67 : c = 67
  · subst h67
    have hsz : Hid ((Tryz.prog.info? 83).map (·.size) = some (#[Value.int .i64 0, .int .i64 0, .int .i64 0] : Array Value).size) := Lib.hid (by kernel_rfl)
    have hth : w.there M 8 (#[Value.int .i64 0, .int .i64 0, .int .i64 0] : Array Value).size := by
      obtain ⟨c0, f0⟩ := cells_of h
      intro j hj
      refine ⟨?_, f0 _⟩
      have hj3 : j < 3 := hj
      rw [c0, Array.getElem?_eq_getElem (show 8 + j < (rqC q pv).size by show 8 + j < 14; omega)]
      rfl
    have hs := Lib.hid (heap_setCells M 86 [.int .i64 0, .int .i64 0, .int .i64 0] 8 w (rqC q pv) h (show 8 + 3 ≤ 14 by omega))
    have hu := Lib.hid (upd_setCells M [.int .i64 0, .int .i64 0, .int .i64 0] 8 w)
    clear h
    show Calls _ _ #[_, .int .i32 67] _ _
    go_enter Tryz.func90, Tryz.ntmps90
    go_wp2_with ((with_reducible (show wpList _ _ _ (⟨_, Op.store _ _ _, _, _, _, _⟩ :: _) _ _)); refine wpList_store_mid rfl 83 _ _ rfl M 8 #[.int .i64 0, .int .i64 0, .int .i64 0] rfl rfl hth hsz.out (by simp [Value.oneCell']) ?_)
    go_wp2_with fail
    go_returns
    exact ⟨rfl, hs.out, hu.out⟩
  have b67 : ((c.toNat : Int) == 67) = false := by
    simp
    intro e
    exact h67 (UInt8.toNat_inj.1 (by show c.toNat = 67; omega))
  by_cases h73 : c = 73
  · subst h73
    obtain ⟨c0, f0⟩ := cells_of h
    have z : w.cell? ⟨M, 11, none⟩ = (rqC q pv)[11]? := c0 11
    have zf := f0 11
    have hs := Lib.hid (set_blk (j := 11) h (.int .i64 0))
    have hu := Lib.hid (Upd.setCell (S := fun k => k = M) w (a := ⟨M, 11, none⟩) rfl (.int .i64 0))
    unfold rqC at z
    simp only [List.getElem?_toArray, List.getElem?_cons_succ, List.getElem?_cons_zero] at z
    clear c0 f0 h
    show Calls _ _ #[_, .int .i32 73] _ _
    go_enter Tryz.func90, Tryz.ntmps90
    go_wp2_with fail
    go_returns
    exact ⟨rfl, hs.out, hu.out⟩
  have b73 : ((c.toNat : Int) == 73) = false := by
    simp
    intro e
    exact h73 (UInt8.toNat_inj.1 (by show c.toNat = 73; omega))
  by_cases h78 : c = 78
  · subst h78
    obtain ⟨c0, f0⟩ := cells_of h
    have z : w.cell? ⟨M, 12, none⟩ = (rqC q pv)[12]? := c0 12
    have zf := f0 12
    have hs := Lib.hid (set_blk (j := 12) h (.int .i64 0))
    have hu := Lib.hid (Upd.setCell (S := fun k => k = M) w (a := ⟨M, 12, none⟩) rfl (.int .i64 0))
    unfold rqC at z
    simp only [List.getElem?_toArray, List.getElem?_cons_succ, List.getElem?_cons_zero] at z
    clear c0 f0 h
    show Calls _ _ #[_, .int .i32 78] _ _
    go_enter Tryz.func90, Tryz.ntmps90
    go_wp2_with fail
    go_returns
    exact ⟨rfl, hs.out, hu.out⟩
  have b78 : ((c.toNat : Int) == 78) = false := by
    simp
    intro e
    exact h78 (UInt8.toNat_inj.1 (by show c.toNat = 78; omega))
  by_cases h76 : c = 76
  · subst h76
    obtain ⟨c0, f0⟩ := cells_of h
    have z : w.cell? ⟨M, 13, none⟩ = (rqC q pv)[13]? := c0 13
    have zf := f0 13
    have hs := Lib.hid (set_blk (j := 13) h (.slice none 0 0))
    have hu := Lib.hid (Upd.setCell (S := fun k => k = M) w (a := ⟨M, 13, none⟩) rfl (.slice none 0 0))
    unfold rqC at z
    simp only [List.getElem?_toArray, List.getElem?_cons_succ, List.getElem?_cons_zero] at z
    clear c0 f0 h
    show Calls _ _ #[_, .int .i32 76] _ _
    go_enter Tryz.func90, Tryz.ntmps90
    go_wp2_with fail
    go_returns
    exact ⟨rfl, hs.out, hu.out⟩
  have b76 : ((c.toNat : Int) == 76) = false := by
    simp
    intro e
    exact h76 (UInt8.toNat_inj.1 (by show c.toNat = 76; omega))
  by_cases h88 : c = 88
  · subst h88
    obtain ⟨c0, f0⟩ := cells_of h
    have z : w.cell? ⟨M, 7, none⟩ = (rqC q pv)[7]? := c0 7
    have zf := f0 7
    have hs := Lib.hid (set_blk (j := 7) h (.string ⟨#[]⟩))
    have hu := Lib.hid (Upd.setCell (S := fun k => k = M) w (a := ⟨M, 7, none⟩) rfl (.string ⟨#[]⟩))
    unfold rqC at z
    simp only [List.getElem?_toArray, List.getElem?_cons_succ, List.getElem?_cons_zero] at z
    clear c0 f0 h
    show Calls _ _ #[_, .int .i32 88] _ _
    go_enter Tryz.func90, Tryz.ntmps90
    go_wp2_with fail
    go_returns
    exact ⟨rfl, hs.out, hu.out⟩
  have b88 : ((c.toNat : Int) == 88) = false := by
    simp
    intro e
    exact h88 (UInt8.toNat_inj.1 (by show c.toNat = 88; omega))
  have e : blankQ q c = q := by unfold blankQ; simp only [h83, h66, h79, h86, h80, h68, h67, h73, h78, h76, h88, if_false]
  have e2 : pvB c pv = pv := by unfold pvB; rw [if_neg h76]
  rw [e, e2]
  have hh := Lib.hid h
  clear e e2 h83 h66 h79 h86 h80 h68 h67 h73 h78 h76 h88 h
  generalize (c.toNat : Int) = x at *
  go_enter Tryz.func90, Tryz.ntmps90
  go_wp2_with fail
  go_returns
  exact ⟨rfl, hh.out, Upd.refl _ _⟩
end Go.Proofs.YtogekobpjjmnjaaGreat

namespace Go.Proofs.YtogekobpjjmnjaaGreat
open Go.RowKit Go.Amb
set_option linter.unusedVariables false
set_option linter.unusedSimpArgs false
set_option maxRecDepth 100000
attribute [local go_sem ↓] Go.wp_at_zero Go.wp_at_succ
def tagV (re im : Int) : Value := .agg #[.int .i64 re, .int .i64 im]
def ckT (re im : Int) : Int := if tagOk re im then 0 else 2
theorem ckT_or (re im : Int) : (tagOk re im ∧ ckT re im = 0) ∨ (¬ tagOk re im ∧ ckT re im = 2) := by
  by_cases h : tagOk re im
  · exact .inl ⟨h, by unfold ckT; rw [if_pos h]⟩
  · exact .inr ⟨h, by unfold ckT; rw [if_neg h]⟩
set_option maxHeartbeats 1000000 in
theorem wTagCheck (re im : Int) (w : World) : Calls Tryz.prog 80 #[tagV re im] w (Ret (.int .i64 (ckT re im)) w) := by
  unfold tagV
  have hyes : (0 ≤ re ∧ re < 1048573) → (0 ≤ im ∧ im < 1048573) → ckT re im = 0 := fun h1 h2 => by unfold ckT; rw [if_pos (show tagOk re im from ⟨h1.1, h1.2, h2⟩)]
  have hno1 : ¬ (0 ≤ re ∧ re < 1048573) → ckT re im = 2 := fun h1 => by unfold ckT; rw [if_neg (fun e : tagOk re im => h1 ⟨e.1, e.2.1⟩)]
  have hno2 : ¬ (0 ≤ im ∧ im < 1048573) → ckT re im = 2 := fun h1 => by unfold ckT; rw [if_neg (fun e : tagOk re im => h1 e.2.2)]
  replace hyes := Lib.hid hyes
  replace hno1 := Lib.hid hno1
  replace hno2 := Lib.hid hno2
  generalize ckT re im = ck at *
  have hx0 : ∀ w, (Instr.index 141 (.agg #[.int .i64 re, .int .i64 im]) (.int .i64 0)).run Tryz.prog w = .ok (.int .i64 re) w := fun w => by kernel_rfl
  have hx1 : ∀ w, (Instr.index 141 (.agg #[.int .i64 re, .int .i64 im]) (.int .i64 1)).run Tryz.prog w = .ok (.int .i64 im) w := fun w => by kernel_rfl
  go_enter Tryz.func80, Tryz.ntmps80
  go_wp2_with fail
  go_loopw [10] (fun i wr => ∃ j : Nat, j ≤ 2 ∧ i = .int .i64 j ∧ Hid ((1 ≤ j → (0 ≤ re ∧ re < 1048573)) ∧ (2 ≤ j → (0 ≤ im ∧ im < 1048573))) ∧ Upd Non w wr) (fun i _ => 2 - (intOf i).toNat)
  case atStart => exact ⟨0, by omega, rfl, Lib.hid ⟨fun h => by omega, fun h => by omega⟩, (Upd.refl _ _).then_alloc _⟩
  case round =>
    obtain ⟨j, hj, rfl, hq, hU⟩ := hrel
    have hj3 : j = 0 ∨ j = 1 ∨ j = 2 := by omega
    rcases hj3 with rfl | rfl | rfl
    · by_cases h0 : re < 0
      · obtain rfl := hno1.out (by omega)
        go_wp2_with fail
        go_ret
        exact ⟨rfl, hU⟩
      · by_cases h1 : 1048573 ≤ re
        · obtain rfl := hno1.out (by omega)
          go_wp2_with fail
          go_ret
          exact ⟨rfl, hU⟩
        · have hp : Hid (0 ≤ re ∧ re < 1048573) := Lib.hid (show _ ∧ _ from ⟨by omega, by omega⟩)
          go_wp2_with fail
          go_roundw
          case rel => exact ⟨1, by omega, rfl, Lib.hid ⟨fun _ => hp.out, fun h => by omega⟩, hU⟩
          case measure => simp [intOf]
    · by_cases h0 : im < 0
      · obtain rfl := hno2.out (by omega)
        go_wp2_with fail
        go_ret
        exact ⟨rfl, hU⟩
      · by_cases h1 : 1048573 ≤ im
        · obtain rfl := hno2.out (by omega)
          go_wp2_with fail
          go_ret
          exact ⟨rfl, hU⟩
        · have hp : Hid (0 ≤ im ∧ im < 1048573) := Lib.hid (show _ ∧ _ from ⟨by omega, by omega⟩)
          have hq1 := Lib.hid (hq.out.1 (by omega))
          go_wp2_with fail
          go_roundw
          case rel => exact ⟨2, by omega, rfl, Lib.hid ⟨fun _ => hq1.out, fun _ => hp.out⟩, hU⟩
          case measure => simp [intOf]
    · obtain rfl := hyes.out (hq.out.1 (by omega)) (hq.out.2 (by omega))
      go_wp2_with fail
      go_ret
      exact ⟨rfl, hU⟩
theorem tag_eqGuard (op : BinOp) (x y : Operand) (xs ys : Array Value) (w : World) : (eqGuard op 25 x y (.agg xs) (.agg ys)).run Tryz.prog w = .ok () w := run_eqGuard_agg w op 25 x y xs ys (by kernel_rfl)
theorem tag_eql (a b c d : Int) (w : World) : (binOp .eql 25 (.agg #[.int .i64 a, .int .i64 b]) (.agg #[.int .i64 c, .int .i64 d])).run Tryz.prog w = .ok (.bool (decide (a = c) && decide (b = d))) w := by
  have hs : Program.stoodInHeld Tryz.prog 25 = false := by kernel_rfl
  rw [run_eql_struct, run_equalIn_agg w 9999 25 _ _ (by kernel_rfl) hs]
  simp only [Program.fieldsOf, Tryz.underlying25]
  simp [Op.eqFields, go_sem]
  by_cases h1 : a = c
  · by_cases h2 : b = d <;> simp [h1, h2]
  · simp [h1]
theorem tag_neq (a b c d : Int) (w : World) : (binOp .neq 25 (.agg #[.int .i64 a, .int .i64 b]) (.agg #[.int .i64 c, .int .i64 d])).run Tryz.prog w = .ok (.bool (!(decide (a = c) && decide (b = d)))) w := by
  have hs : Program.stoodInHeld Tryz.prog 25 = false := by kernel_rfl
  rw [run_neq_struct, run_equalIn_agg w 9999 25 _ _ (by kernel_rfl) hs]
  simp only [Program.fieldsOf, Tryz.underlying25]
  simp [Op.eqFields, go_sem]
  by_cases h1 : a = c
  · by_cases h2 : b = d <;> simp [h1, h2]
  · simp [h1]
theorem cond_eqGuard (op : BinOp) (x y : Operand) (xs ys : Array Value) (w : World) : (eqGuard op 83 x y (.agg xs) (.agg ys)).run Tryz.prog w = .ok () w := run_eqGuard_agg w op 83 x y xs ys (by kernel_rfl)
theorem cond_eql (k a b l c d : Int) (w : World) : (binOp .eql 83 (.agg #[.int .i64 k, .int .i64 a, .int .i64 b]) (.agg #[.int .i64 l, .int .i64 c, .int .i64 d])).run Tryz.prog w = .ok (.bool (decide (k = l) && (decide (a = c) && decide (b = d)))) w := by
  have hs : Program.stoodInHeld Tryz.prog 83 = false := by kernel_rfl
  have hs2 : Program.stoodInHeld Tryz.prog 25 = false := by kernel_rfl
  rw [run_eql_struct, run_equalIn_agg w 9999 83 _ _ (by kernel_rfl) hs]
  have he := run_equalIn_agg (P := Tryz.prog) w 9998 25 #[.int .i64 a, .int .i64 b] #[.int .i64 c, .int .i64 d] (by kernel_rfl) hs2
  simp only [Program.fieldsOf, Tryz.underlying83, Tryz.underlying25] at he ⊢
  simp [Op.eqFields, go_sem, hs2] at he ⊢
  by_cases h0 : k = l
  · by_cases h1 : a = c
    · by_cases h2 : b = d <;> simp [h0, h1, h2]
    · simp [h0, h1]
  · simp [h0]
theorem str_eq0 (o : List UInt8) : ((⟨o.toArray⟩ : ByteArray) == ⟨#[]⟩) = decide (o = []) := by
  cases o with
  | nil => rfl
  | cons a b => rfl
instance (q : Rq) : Decidable (emptyQ q) := by unfold emptyQ; infer_instance
end Go.Proofs.YtogekobpjjmnjaaGreat

namespace Go.Proofs.YtogekobpjjmnjaaGreat
open Go.RowKit Go.Amb
set_option linter.unusedVariables false
set_option linter.unusedSimpArgs false
set_option maxRecDepth 100000
attribute [local go_sem ↓] Go.wp_at_zero Go.wp_at_succ
set_option maxHeartbeats 4000000 in
theorem wEmpty (q : Rq) (a : Option Addr) (c : Nat) (w : World) : Calls Tryz.prog 92 #[rqV q (.slice a q.parts.length c)] w (Ret (.bool (decide (emptyQ q))) w) := by
  obtain ⟨kind, session, bucket, object, version, pre, delim, body, ck, re, im, id, n, parts⟩ := q
  unfold rqV rqC
  dsimp only
  have hgu := cond_eqGuard .eql
  have hne := cond_eql ck re im 0 0 0
  by_cases h1 : session = 0
  case neg =>
    have b1 : (session == 0) = false := by simp [h1]
    rw [decide_eq_false (fun e : emptyQ _ => h1 e.1)]
    go_enter Tryz.func92, Tryz.ntmps92
    go_wp2_with fail
    go_ret
    exact ⟨rfl, (Upd.refl _ _).then_alloc _⟩
  have b1 : (session == 0) = true := by simp [h1]
  by_cases h2 : bucket = []
  case neg =>
    have b2 : ((⟨List.toArray bucket⟩ : ByteArray) == ⟨#[]⟩) = false := by rw [str_eq0, decide_eq_false h2]
    rw [decide_eq_false (fun e : emptyQ _ => h2 e.2.1)]
    go_enter Tryz.func92, Tryz.ntmps92
    go_wp2_with fail
    go_ret
    exact ⟨rfl, (Upd.refl _ _).then_alloc _⟩
  have b2 : ((⟨List.toArray bucket⟩ : ByteArray) == ⟨#[]⟩) = true := by rw [str_eq0, decide_eq_true h2]
  by_cases h3 : object = []
  case neg =>
    have b3 : ((⟨List.toArray object⟩ : ByteArray) == ⟨#[]⟩) = false := by rw [str_eq0, decide_eq_false h3]
    rw [decide_eq_false (fun e : emptyQ _ => h3 e.2.2.1)]
    go_enter Tryz.func92, Tryz.ntmps92
    go_wp2_with fail
    go_ret
    exact ⟨rfl, (Upd.refl _ _).then_alloc _⟩
  have b3 : ((⟨List.toArray object⟩ : ByteArray) == ⟨#[]⟩) = true := by rw [str_eq0, decide_eq_true h3]
  by_cases h4 : version = []
  case neg =>
    have b4 : ((⟨List.toArray version⟩ : ByteArray) == ⟨#[]⟩) = false := by rw [str_eq0, decide_eq_false h4]
    rw [decide_eq_false (fun e : emptyQ _ => h4 e.2.2.2.1)]
    go_enter Tryz.func92, Tryz.ntmps92
    go_wp2_with fail
    go_ret
    exact ⟨rfl, (Upd.refl _ _).then_alloc _⟩
  have b4 : ((⟨List.toArray version⟩ : ByteArray) == ⟨#[]⟩) = true := by rw [str_eq0, decide_eq_true h4]
  by_cases h5 : pre = []
  case neg =>
    have b5 : ((⟨List.toArray pre⟩ : ByteArray) == ⟨#[]⟩) = false := by rw [str_eq0, decide_eq_false h5]
    rw [decide_eq_false (fun e : emptyQ _ => h5 e.2.2.2.2.1)]
    go_enter Tryz.func92, Tryz.ntmps92
    go_wp2_with fail
    go_ret
    exact ⟨rfl, (Upd.refl _ _).then_alloc _⟩
  have b5 : ((⟨List.toArray pre⟩ : ByteArray) == ⟨#[]⟩) = true := by rw [str_eq0, decide_eq_true h5]
  by_cases h6 : delim = []
  case neg =>
    have b6 : ((⟨List.toArray delim⟩ : ByteArray) == ⟨#[]⟩) = false := by rw [str_eq0, decide_eq_false h6]
    rw [decide_eq_false (fun e : emptyQ _ => h6 e.2.2.2.2.2.1)]
    go_enter Tryz.func92, Tryz.ntmps92
    go_wp2_with fail
    go_ret
    exact ⟨rfl, (Upd.refl _ _).then_alloc _⟩
  have b6 : ((⟨List.toArray delim⟩ : ByteArray) == ⟨#[]⟩) = true := by rw [str_eq0, decide_eq_true h6]
  by_cases h7 : ck = 0 ∧ re = 0 ∧ im = 0
  case neg =>
    have b7 : (decide (ck = 0) && (decide (re = 0) && decide (im = 0))) = false := by
      rw [← Bool.not_eq_true, Bool.and_eq_true, Bool.and_eq_true, decide_eq_true_eq, decide_eq_true_eq, decide_eq_true_eq]; exact h7
    rw [b7] at hne
    rw [decide_eq_false (fun e : emptyQ _ => h7 e.2.2.2.2.2.2.1)]
    go_enter Tryz.func92, Tryz.ntmps92
    go_wp2_with fail
    go_ret
    exact ⟨rfl, (Upd.refl _ _).then_alloc _⟩
  have b7 : (decide (ck = 0) && (decide (re = 0) && decide (im = 0))) = true := by simp [h7]
  rw [b7] at hne
  by_cases h8 : id = 0
  case neg =>
    have b8 : (id == 0) = false := by simp [h8]
    rw [decide_eq_false (fun e : emptyQ _ => h8 e.2.2.2.2.2.2.2.1)]
    go_enter Tryz.func92, Tryz.ntmps92
    go_wp2_with fail
    go_ret
    exact ⟨rfl, (Upd.refl _ _).then_alloc _⟩
  have b8 : (id == 0) = true := by simp [h8]
  by_cases h9 : n = 0
  case neg =>
    have b9 : (n == 0) = false := by simp [h9]
    rw [decide_eq_false (fun e : emptyQ _ => h9 e.2.2.2.2.2.2.2.2.1)]
    go_enter Tryz.func92, Tryz.ntmps92
    go_wp2_with fail
    go_ret
    exact ⟨rfl, (Upd.refl _ _).then_alloc _⟩
  have b9 : (n == 0) = true := by simp [h9]
  by_cases h10 : parts = []
  case neg =>
    have b10 : ((parts.length : Int) == 0) = false := by
      have := List.length_pos_iff.2 h10
      simp
      omega
    rw [decide_eq_false (fun e : emptyQ _ => h10 e.2.2.2.2.2.2.2.2.2.1)]
    generalize (parts.length : Int) = pl at *
    go_enter Tryz.func92, Tryz.ntmps92
    go_wp2_with fail
    go_ret
    exact ⟨rfl, (Upd.refl _ _).then_alloc _⟩
  have b10 : ((parts.length : Int) == 0) = true := by rw [h10]; rfl
  by_cases h11 : body = []
  case neg =>
    have i11 : body.isEmpty = false := by cases body <;> simp_all
    rw [decide_eq_false (fun e : emptyQ _ => h11 e.2.2.2.2.2.2.2.2.2.2)]
    go_enter Tryz.func92, Tryz.ntmps92
    go_wp2_with fail
    go_ret
    exact ⟨by show _ = Ending.returned (Value.bool false); rw [← i11]; rfl, (Upd.refl _ _).then_alloc _⟩
  rw [decide_eq_true (show emptyQ _ from ⟨h1, h2, h3, h4, h5, h6, h7, h8, h9, h10, h11⟩)]
  go_enter Tryz.func92, Tryz.ntmps92
  go_wp2_with fail
  go_ret
  exact ⟨rfl, (Upd.refl _ _).then_alloc _⟩
end Go.Proofs.YtogekobpjjmnjaaGreat

namespace Go.Proofs.YtogekobpjjmnjaaGreat
open Go.RowKit Go.Amb
set_option linter.unusedVariables false
set_option linter.unusedSimpArgs false
set_option maxRecDepth 100000
attribute [local go_sem ↓] Go.wp_at_zero Go.wp_at_succ
theorem has1 {w : World} {v : Value} {n : Nat} {l : List Value} (h : Has w 1 v n l) : ∃ a c, v = .slice a n c ∧ n ≤ c ∧ c ≤ maxLen ∧ ∀ k (hk : k < l.length), k < n → ∃ g off, a = some ⟨g, off, none⟩ ∧ w.cell? ⟨g, off + k, none⟩ = some l[k] := by
  obtain ⟨hl, a, c, rfl, hc, hm, hx⟩ := h
  refine ⟨a, c, rfl, hc, hm, fun k hk hn => ?_⟩
  rcases hx with h0 | ⟨b, off, rfl, hx⟩
  · omega
  · exact ⟨b, off, rfl, hx k _ (List.getElem?_eq_getElem hk)⟩
theorem any_snoc {α : Type} (p : α → Bool) (l : List α) (k : Nat) (hk : k < l.length) : (l.take (k + 1)).any p = ((l.take k).any p || p l[k]) := by
  rw [List.take_add_one, List.getElem?_eq_getElem hk, List.any_append]
  simp
theorem any_hit {α : Type} (p : α → Bool) (l : List α) (k : Nat) (hk : k < l.length) (h : p l[k] = true) : l.any p = true := List.any_eq_true.2 ⟨_, List.getElem_mem hk, h⟩
abbrev Txts (w : World) (v : Value) (l : List (List UInt8)) : Prop := Has w 1 v l.length (l.map fun s => .string ⟨s.toArray⟩)
abbrev Ints (w : World) (v : Value) (l : List Int) : Prop := Has w 1 v l.length (l.map (.int .i64))
def longT (m : Nat) (s : List UInt8) : Bool := decide (m < s.length)
def strayI (n : Int) : Bool := !decide (0 ≤ n ∧ n ≤ 255)
theorem wFits1 (s : List UInt8) (hs : s.length ≤ maxLen) (w : World) : Calls Tryz.prog 101 #[.string ⟨s.toArray⟩] w (Ret (.bool (longT 255 s)) w) := by
  unfold maxLen at hs
  unfold longT
  have e : decide (255 < s.length) = decide ((255 : Int) < (s.length : Int)) := by
    rw [decide_eq_decide]; omega
  rw [e]
  clear e
  go_enter Tryz.func101, Tryz.ntmps101
  go_wp2_with fail
  go_ret
  exact ⟨rfl, Upd.refl _ _⟩
theorem wFits2 (n : Int) (w : World) : Calls Tryz.prog 102 #[.int .i64 n] w (Ret (.bool (strayI n)) w) := by
  have ha := Lib.hid (fun w => wAmong n 255 w)
  unfold strayI
  generalize decide (0 ≤ n ∧ n ≤ 255) = b at *
  go_enter Tryz.func102, Tryz.ntmps102
  go_wp2_with fail
  refine (ha.out _).mono ?_
  rintro en w1 ⟨rfl, hu⟩
  go_wp2_with fail
  go_ret
  exact ⟨rfl, hu⟩
theorem wA.ask (s : List UInt8) (hs : s.length ≤ maxLen) (w : World) : Calls Tryz.prog 101 #[.string ⟨s.toArray⟩] w (Ret (.bool (longT 255 s)) w) := wFits1 s hs w
theorem wB.ask (n : Int) (_ : True) (w : World) : Calls Tryz.prog 102 #[.int .i64 n] w (Ret (.bool (strayI n)) w) := wFits2 n w
set_option maxHeartbeats 2000000 in
theorem wA.idx (v : Value) (l : List (List UInt8)) (w : World) (hT : Has w 1 v l.length (l.map (fun s => .string ⟨s.toArray⟩))) (hl : ∀ s ∈ l, s.length ≤ maxLen) :
    Calls Tryz.prog 104 #[v, .func (.func 101) #[] #[]] w (fun en w' => ∃ r, en = .returned (.int .i64 r) ∧ (0 ≤ r ↔ l.any (longT 255) = true) ∧ Upd Non w w') := by
  obtain ⟨a, c, rfl, hlc, hcm, hx⟩ := has1 hT
  unfold maxLen at hcm
  have hask := Lib.hid (fun x (hx : x ∈ l) w => wA.ask x (hl x hx) w)
  have hany := Lib.hid (any_snoc (longT 255) l)
  have hhit := any_hit (longT 255) l
  obtain ⟨bb, hbb⟩ : ∃ b, l.any (longT 255) = b := ⟨_, rfl⟩
  rw [hbb] at hhit ⊢
  replace hbb := Lib.hid hbb
  replace hhit := Lib.hid hhit
  replace hx := Lib.hid (fun k (hk : k < l.length) => hx k (by rw [List.length_map]; exact hk) hk)
  simp only [List.getElem_map] at hx
  clear hT hl
  go_enter Tryz.func104, Tryz.ntmps104
  go_wp2_with fail
  go_loopw [8] (fun iv wr => ∃ (k : Nat), iv = .int .i64 (k : Int) ∧ k ≤ l.length ∧ Hid ((l.take k).any (longT 255) = false) ∧ Upd Non w wr) (fun iv _ => l.length - (intOf iv).toNat)
  case atStart => exact ⟨0, rfl, Nat.zero_le _, Lib.hid rfl, Upd.refl _ _⟩
  case round =>
    obtain ⟨k, rfl, hk, hno, hU⟩ := hrel
    by_cases hlt : k < l.length
    · have hltI : (k : Int) < (l.length : Int) := by omega
      have hk0 : (0 : Int) ≤ (k : Int) := by omega
      obtain ⟨gg, off, rfl, x0⟩ := hx.out k hlt
      replace x0 := hU.cell x0 fun h => h
      have hr := hask.out _ (List.getElem_mem hlt)
      have hn := hany.out k hlt
      rw [hno.out, Bool.false_or] at hn
      have hh := hhit.out k hlt
      generalize l[k] = y at *
      obtain ⟨q, hq⟩ : ∃ q, (longT 255) y = q := ⟨_, rfl⟩
      rw [hq] at hr hn hh
      replace hr := Lib.hid hr
      replace hn := Lib.hid hn
      replace hh := Lib.hid hh
      clear hq
      go_wp2_with fail
      refine (hr.out _).mono ?_
      rintro en w1 ⟨rfl, hu⟩
      have hU1 := hU.trans hu fun _ _ h => h
      clear hu x0
      cases q with
      | true =>
        go_wp2_with fail
        go_ret
        exact ⟨_, rfl, iff_of_true hk0 (hh.out (by trivial)), hU1⟩
      | false =>
        go_wp2_with fail
        go_roundw
        case rel => exact ⟨k + 1, by go_num, by omega, hn, hU1⟩
        case measure => simp [intOf]; omega
    · have hltI : ¬ (k : Int) < (l.length : Int) := by omega
      obtain rfl : k = l.length := by omega
      rw [List.take_length] at hno
      go_wp2_with fail
      go_ret
      exact ⟨_, rfl, iff_of_false (by omega) (by rw [← hbb.out, hno.out]; simp), hU⟩
theorem wA.any (v : Value) (l : List (List UInt8)) (w : World) (hT : Has w 1 v l.length (l.map (fun s => .string ⟨s.toArray⟩))) (hl : ∀ s ∈ l, s.length ≤ maxLen) :
    Calls Tryz.prog 96 #[v, .func (.func 101) #[] #[]] w (Ret (.bool (l.any (longT 255))) w) := by
  have hi := Lib.hid (wA.idx v l w hT hl)
  obtain ⟨a, c, rfl, -⟩ := has1 hT
  generalize l.any (longT 255) = b at *
  clear hT hl
  go_enter Tryz.func96, Tryz.ntmps96
  go_wp2_with fail
  refine hi.out.mono ?_
  rintro en w1 ⟨q, rfl, hq, hu⟩
  by_cases h0 : 0 ≤ q
  · obtain rfl : b = true := hq.1 h0
    go_wp2_with fail
    go_ret
    exact ⟨rfl, hu⟩
  · obtain rfl : b = false := by
      cases b with
      | false => rfl
      | true => exact absurd (hq.2 rfl) h0
    go_wp2_with fail
    go_ret
    exact ⟨rfl, hu⟩
set_option maxHeartbeats 2000000 in
theorem wB.idx (v : Value) (l : List Int) (w : World) (hT : Has w 1 v l.length (l.map (.int .i64))) (hl : ∀ s ∈ l, True) :
    Calls Tryz.prog 105 #[v, .func (.func 102) #[] #[]] w (fun en w' => ∃ r, en = .returned (.int .i64 r) ∧ (0 ≤ r ↔ l.any (strayI) = true) ∧ Upd Non w w') := by
  obtain ⟨a, c, rfl, hlc, hcm, hx⟩ := has1 hT
  unfold maxLen at hcm
  have hask := Lib.hid (fun x (hx : x ∈ l) w => wB.ask x (hl x hx) w)
  have hany := Lib.hid (any_snoc (strayI) l)
  have hhit := any_hit (strayI) l
  obtain ⟨bb, hbb⟩ : ∃ b, l.any (strayI) = b := ⟨_, rfl⟩
  rw [hbb] at hhit ⊢
  replace hbb := Lib.hid hbb
  replace hhit := Lib.hid hhit
  replace hx := Lib.hid (fun k (hk : k < l.length) => hx k (by rw [List.length_map]; exact hk) hk)
  simp only [List.getElem_map] at hx
  clear hT hl
  go_enter Tryz.func105, Tryz.ntmps105
  go_wp2_with fail
  go_loopw [8] (fun iv wr => ∃ (k : Nat), iv = .int .i64 (k : Int) ∧ k ≤ l.length ∧ Hid ((l.take k).any (strayI) = false) ∧ Upd Non w wr) (fun iv _ => l.length - (intOf iv).toNat)
  case atStart => exact ⟨0, rfl, Nat.zero_le _, Lib.hid rfl, Upd.refl _ _⟩
  case round =>
    obtain ⟨k, rfl, hk, hno, hU⟩ := hrel
    by_cases hlt : k < l.length
    · have hltI : (k : Int) < (l.length : Int) := by omega
      have hk0 : (0 : Int) ≤ (k : Int) := by omega
      obtain ⟨gg, off, rfl, x0⟩ := hx.out k hlt
      replace x0 := hU.cell x0 fun h => h
      have hr := hask.out _ (List.getElem_mem hlt)
      have hn := hany.out k hlt
      rw [hno.out, Bool.false_or] at hn
      have hh := hhit.out k hlt
      generalize l[k] = y at *
      obtain ⟨q, hq⟩ : ∃ q, (strayI) y = q := ⟨_, rfl⟩
      rw [hq] at hr hn hh
      replace hr := Lib.hid hr
      replace hn := Lib.hid hn
      replace hh := Lib.hid hh
      clear hq
      go_wp2_with fail
      refine (hr.out _).mono ?_
      rintro en w1 ⟨rfl, hu⟩
      have hU1 := hU.trans hu fun _ _ h => h
      clear hu x0
      cases q with
      | true =>
        go_wp2_with fail
        go_ret
        exact ⟨_, rfl, iff_of_true hk0 (hh.out (by trivial)), hU1⟩
      | false =>
        go_wp2_with fail
        go_roundw
        case rel => exact ⟨k + 1, by go_num, by omega, hn, hU1⟩
        case measure => simp [intOf]; omega
    · have hltI : ¬ (k : Int) < (l.length : Int) := by omega
      obtain rfl : k = l.length := by omega
      rw [List.take_length] at hno
      go_wp2_with fail
      go_ret
      exact ⟨_, rfl, iff_of_false (by omega) (by rw [← hbb.out, hno.out]; simp), hU⟩
theorem wB.any (v : Value) (l : List Int) (w : World) (hT : Has w 1 v l.length (l.map (.int .i64))) (hl : ∀ s ∈ l, True) :
    Calls Tryz.prog 103 #[v, .func (.func 102) #[] #[]] w (Ret (.bool (l.any (strayI))) w) := by
  have hi := Lib.hid (wB.idx v l w hT hl)
  obtain ⟨a, c, rfl, -⟩ := has1 hT
  generalize l.any (strayI) = b at *
  clear hT hl
  go_enter Tryz.func103, Tryz.ntmps103
  go_wp2_with fail
  refine hi.out.mono ?_
  rintro en w1 ⟨q, rfl, hq, hu⟩
  by_cases h0 : 0 ≤ q
  · obtain rfl : b = true := hq.1 h0
    go_wp2_with fail
    go_ret
    exact ⟨rfl, hu⟩
  · obtain rfl : b = false := by
      cases b with
      | false => rfl
      | true => exact absurd (hq.2 rfl) h0
    go_wp2_with fail
    go_ret
    exact ⟨rfl, hu⟩
end Go.Proofs.YtogekobpjjmnjaaGreat

namespace Go.Proofs.YtogekobpjjmnjaaGreat
open Go.RowKit Go.Amb
set_option linter.unusedVariables false
set_option linter.unusedSimpArgs false
set_option maxRecDepth 100000
attribute [local go_sem ↓] Go.wp_at_zero Go.wp_at_succ
instance (q : Rq) : Decidable (fitsQ q) := by unfold fitsQ; infer_instance
/-- A request's texts fit into memory. -/
def smallQ (q : Rq) : Prop := q.bucket.length ≤ maxLen ∧ q.object.length ≤ maxLen ∧ q.version.length ≤ maxLen ∧ q.pre.length ≤ maxLen ∧ q.delim.length ≤ maxLen ∧ q.body.length ≤ maxLen
theorem long_any (a b c d e : List UInt8) : [a, b, c, d, e].any (longT 255) = false ↔ a.length ≤ 255 ∧ b.length ≤ 255 ∧ c.length ≤ 255 ∧ d.length ≤ 255 ∧ e.length ≤ 255 := by
  simp only [List.any_cons, List.any_nil, Bool.or_false, Bool.or_eq_false_iff, longT, decide_eq_false_iff_not, Nat.not_lt]
theorem stray_any (l : List Int) : l.any strayI = false ↔ ∀ p ∈ l, 0 ≤ p ∧ p ≤ 255 := by
  simp [strayI]
/-- The world behind a call's own box of cells. -/
def BxOf (A : Array Value) (w w1 : World) : Prop := (∀ j v, A[j]? = some v → w1.cell? ⟨w.heap.size, j, none⟩ = some v) ∧ Upd Non w w1
theorem BxOf.start {A : Array Value} {t : TypeId} {w w1 : World} (hu : Upd Non (w.alloc (.cells A t)) w1) : BxOf A w w1 :=
  ⟨fun j v h => ((hu.own1 (fun _ h => h.elim)).1 j).trans h, (hu.own1 (fun _ h => h.elim)).2.2.2⟩
theorem BxOf.next {A : Array Value} {w w1 w2 : World} (h : BxOf A w w1) (hu : Upd Non w1 w2) : BxOf A w w2 :=
  ⟨fun j v e => hu.cell (h.1 j v e) fun h => h, h.2.trans hu fun _ _ h => h⟩
theorem BxOf.upd {A : Array Value} {w w1 : World} (h : BxOf A w w1) : Upd Non w w1 := h.2
set_option maxHeartbeats 4000000 in
theorem wFits (q : Rq) (pv : Value) (w : World) (hP : Ints w pv q.parts) (hs : smallQ q) : Calls Tryz.prog 91 #[rqV q pv] w (Ret (.bool (decide (fitsQ q))) w) := by
  obtain ⟨s1, s2, s3, s4, s5, s6⟩ := hs
  have hck := Lib.hid (fun w => wTagCheck q.re q.im w)
  have hgu := tag_eqGuard .eql
  have hne := tag_eql q.re q.im 0 0
  have hlong := long_any q.bucket q.object q.version q.pre q.delim
  have htx : ∀ x ∈ [q.bucket, q.object, q.version, q.pre, q.delim], x.length ≤ maxLen := by
    intro x hx
    simp only [List.mem_cons, List.not_mem_nil, or_false] at hx
    rcases hx with rfl | rfl | rfl | rfl | rfl <;> assumption
  replace htx := Lib.hid htx
  obtain ⟨b, hb⟩ : ∃ b, [q.bucket, q.object, q.version, q.pre, q.delim].any (longT 255) = b := ⟨_, rfl⟩
  have hA := Lib.hid (fun v w (h : Txts w v [q.bucket, q.object, q.version, q.pre, q.delim]) => wA.any v _ w h htx.out)
  rw [hb] at hA hlong
  clear htx hb
  unfold maxLen at s6
  obtain ⟨b', hb'⟩ : ∃ b', q.parts.any strayI = b' := ⟨_, rfl⟩
  have hB := Lib.hid (fun w' (hu : Upd Non w w') => wB.any pv q.parts w' (hP.non hu) (fun _ _ => trivial))
  have hst := stray_any q.parts
  rw [hb'] at hB hst
  clear hb'
  obtain ⟨a, c, rfl, hlc, hcm, -⟩ := has1 hP
  unfold maxLen at hcm
  have hrr : Hid (fitsQ q ↔ ((1 ≤ q.kind ∧ q.kind ≤ 23) ∧ b = false ∧ q.body.length ≤ 65535) ∧ ((0 ≤ q.session ∧ q.session ≤ 255) ∧ (0 ≤ q.n ∧ q.n ≤ 65535) ∧ (0 ≤ q.ck ∧ q.ck ≤ 255) ∧ q.parts.length ≤ 255 ∧ b' = false) ∧ tagOk q.re q.im ∧ (q.ck = 2 ∨ (q.re = 0 ∧ q.im = 0))) := Lib.hid (by
    unfold fitsQ
    rw [hlong, hst]
    constructor
    · rintro ⟨h1, h2, h3, h4, h5, h6, h7, h8, h9, h10⟩
      exact ⟨⟨h1, h9, h8⟩, ⟨h2, h3, h4, h7, h10⟩, h5, h6⟩
    · rintro ⟨⟨h1, h9, h8⟩, ⟨h2, h3, h4, h7, h10⟩, h5, h6⟩
      exact ⟨h1, h2, h3, h4, h5, h6, h7, h8, h9, h10⟩)
  obtain ⟨r, hr⟩ : ∃ r, decide (fitsQ q) = r := ⟨_, rfl⟩
  rw [hr]
  have hyes : Hid (_ → r = true) := Lib.hid (fun h => by rw [← hr]; exact decide_eq_true (hrr.out.2 h))
  have hno : Hid (¬ _ → r = false) := Lib.hid (fun h => by rw [← hr]; exact decide_eq_false (fun e => h (hrr.out.1 e)))
  clear hrr hr hlong hst s1 s2 s3 s4 s5 hP
  obtain ⟨kind, session, bucket, object, version, pre, delim, body, ck, re, im, id, n, parts⟩ := q
  unfold rqV rqC
  dsimp only at *
  have a1 := Lib.hid (fun w => wAmong session 255 w)
  have a2 := Lib.hid (fun w => wAmong n 65535 w)
  have a3 := Lib.hid (fun w => wAmong ck 255 w)
  by_cases h1 : 1 ≤ kind
  case neg =>
    obtain rfl : r = false := hno.out (fun e => h1 e.1.1.1)
    clear hno hyes hA hB hgu hne hck a1 a2 a3
    go_enter Tryz.func91, Tryz.ntmps91
    go_wp2_with fail
    go_ret
    exact ⟨rfl, ((Upd.refl _ _).then_alloc _).then_alloc _⟩
  by_cases h2 : kind ≤ 23
  case neg =>
    obtain rfl : r = false := hno.out (fun e => h2 e.1.1.2)
    clear hno hyes hA hB hgu hne hck a1 a2 a3
    go_enter Tryz.func91, Tryz.ntmps91
    go_wp2_with fail
    go_ret
    exact ⟨rfl, ((Upd.refl _ _).then_alloc _).then_alloc _⟩
  go_enter Tryz.func91, Tryz.ntmps91
  go_wp2_with fail
  refine (hA.out _ _ (by have := has_new (w.alloc (.cells (rqC ⟨kind, session, bucket, object, version, pre, delim, body, ck, re, im, id, n, parts⟩ (.slice a parts.length c)) 86)) [.string ⟨bucket.toArray⟩, .string ⟨object.toArray⟩, .string ⟨version.toArray⟩, .string ⟨pre.toArray⟩, .string ⟨delim.toArray⟩] 9 1 5 rfl (by unfold maxLen; omega); simp [rqC] at this; exact this)).mono ?_
  rintro en w1 ⟨rfl, hu⟩
  have hB1 : BxOf (rqC ⟨kind, session, bucket, object, version, pre, delim, body, ck, re, im, id, n, parts⟩ (.slice a parts.length c)) w w1 := BxOf.start ((Upd.alloc Non _ _).trans hu fun _ _ h => h)
  clear hu hA
  cases b with
  | true =>
    obtain rfl : r = false := hno.out (fun e => by simpa using e.1.2.1)
    go_wp2_with fail
    go_ret
    exact ⟨rfl, hB1.upd⟩
  | false =>
    have y7 : w1.cell? ⟨w.heap.size, 7, none⟩ = some (.string ⟨body.toArray⟩) := hB1.1 7 _ rfl
    by_cases h3 : body.length ≤ 65535
    case neg =>
      obtain rfl : r = false := hno.out (fun e => h3 e.1.2.2)
      have h3I : ¬ (body.length : Int) ≤ 65535 := by omega
      go_wp2_with fail
      go_ret
      exact ⟨rfl, hB1.upd⟩
    have h3I : (body.length : Int) ≤ 65535 := by omega
    have y1 : w1.cell? ⟨w.heap.size, 1, none⟩ = some (.int .i64 session) := hB1.1 1 _ rfl
    go_wp2_with fail
    refine (a1.out _).mono ?_
    rintro en w2 ⟨rfl, hu⟩
    have hB2 := hB1.next hu
    clear hu y7 y1 hB1
    by_cases q1 : (0 ≤ session ∧ session ≤ 255)
    case neg =>
      obtain rfl : r = false := hno.out (fun e => q1 e.2.1.1)
      rw [decide_eq_false q1]
      go_wp2_with fail
      go_ret
      exact ⟨rfl, hB2.upd⟩
    rw [decide_eq_true q1]
    have y12 : w2.cell? ⟨w.heap.size, 12, none⟩ = some (.int .i64 n) := hB2.1 12 _ rfl
    go_wp2_with fail
    refine (a2.out _).mono ?_
    rintro en w3 ⟨rfl, hu⟩
    have hB3 := hB2.next hu
    clear hu y12 hB2
    by_cases q2 : (0 ≤ n ∧ n ≤ 65535)
    case neg =>
      obtain rfl : r = false := hno.out (fun e => q2 e.2.1.2.1)
      rw [decide_eq_false q2]
      go_wp2_with fail
      go_ret
      exact ⟨rfl, hB3.upd⟩
    rw [decide_eq_true q2]
    have y8 : w3.cell? ⟨w.heap.size, 8, none⟩ = some (.int .i64 ck) := hB3.1 8 _ rfl
    go_wp2_with fail
    refine (a3.out _).mono ?_
    rintro en w4 ⟨rfl, hu⟩
    have hB4 := hB3.next hu
    clear hu y8 hB3
    by_cases q3 : (0 ≤ ck ∧ ck ≤ 255)
    case neg =>
      obtain rfl : r = false := hno.out (fun e => q3 e.2.1.2.2.1)
      rw [decide_eq_false q3]
      go_wp2_with fail
      go_ret
      exact ⟨rfl, hB4.upd⟩
    rw [decide_eq_true q3]
    have y13 : w4.cell? ⟨w.heap.size, 13, none⟩ = some (.slice a parts.length c) := hB4.1 13 _ rfl
    by_cases q4 : parts.length ≤ 255
    case neg =>
      obtain rfl : r = false := hno.out (fun e => q4 e.2.1.2.2.2.1)
      have q4I : ¬ (parts.length : Int) ≤ 255 := by omega
      go_wp2_with fail
      go_ret
      exact ⟨rfl, hB4.upd⟩
    have q4I : (parts.length : Int) ≤ 255 := by omega
    have hB' := Lib.hid (hB.out _ hB4.upd)
    go_wp2_with fail
    refine hB'.out.mono ?_
    rintro en w5 ⟨rfl, hu⟩
    have hB5 := hB4.next hu
    clear hu y13 hB4 hB'
    cases b' with
    | true =>
      obtain rfl : r = false := hno.out (fun e => by simpa using e.2.1.2.2.2.2)
      go_wp2_with fail
      go_ret
      exact ⟨rfl, hB5.upd⟩
    | false =>
      have y9 : w5.cell? ⟨w.heap.size, 9, none⟩ = some (.int .i64 re) := hB5.1 9 _ rfl
      have y10 : w5.cell? ⟨w.heap.size, 10, none⟩ = some (.int .i64 im) := hB5.1 10 _ rfl
      unfold tagV at hck
      go_wp2_with fail
      refine (hck.out _).mono ?_
      rintro en w6 ⟨rfl, hu⟩
      have hB6 := hB5.next hu
      clear hu y9 y10 hB5
      have y8 : w6.cell? ⟨w.heap.size, 8, none⟩ = some (.int .i64 ck) := hB6.1 8 _ rfl
      have y9 : w6.cell? ⟨w.heap.size, 9, none⟩ = some (.int .i64 re) := hB6.1 9 _ rfl
      have y10 : w6.cell? ⟨w.heap.size, 10, none⟩ = some (.int .i64 im) := hB6.1 10 _ rfl
      rcases ckT_or re im with ⟨hT, hc⟩ | ⟨hT, hc⟩
      · rw [hc]
        replace hT := Lib.hid hT
        by_cases q5 : ck = 2
        · have b5 : (ck == 2) = true := by simp [q5]
          obtain rfl : r = true := hyes.out ⟨⟨⟨h1, h2⟩, by trivial, h3⟩, ⟨q1, q2, q3, q4, by trivial⟩, hT.out, .inl q5⟩
          go_wp2_with fail
          go_ret
          exact ⟨rfl, hB6.upd⟩
        · have b5 : (ck == 2) = false := by simp [q5]
          by_cases q6 : re = 0 ∧ im = 0
          · obtain rfl : r = true := hyes.out ⟨⟨⟨h1, h2⟩, by trivial, h3⟩, ⟨q1, q2, q3, q4, by trivial⟩, hT.out, .inr q6⟩
            rw [show (decide (re = 0) && decide (im = 0)) = true by simp [q6]] at hne
            replace q6 := Lib.hid q6
            go_wp2_with fail
            go_ret
            exact ⟨rfl, hB6.upd⟩
          · obtain rfl : r = false := hno.out (fun e => e.2.2.2.elim q5 q6)
            rw [show (decide (re = 0) && decide (im = 0)) = false by rw [← Bool.not_eq_true, Bool.and_eq_true, decide_eq_true_eq, decide_eq_true_eq]; exact q6] at hne
            replace q6 := Lib.hid q6
            go_wp2_with fail
            go_ret
            exact ⟨rfl, hB6.upd⟩
      · rw [hc]
        obtain rfl : r = false := hno.out (fun e => hT e.2.2.1)
        replace hT := Lib.hid hT
        go_wp2_with fail
        go_ret
        exact ⟨rfl, hB6.upd⟩
end Go.Proofs.YtogekobpjjmnjaaGreat

namespace Go.Proofs.YtogekobpjjmnjaaGreat
open Go.RowKit Go.Amb
set_option linter.unusedVariables false
set_option linter.unusedSimpArgs false
set_option maxRecDepth 100000
attribute [local go_sem ↓] Go.wp_at_zero Go.wp_at_succ
theorem upd_iterAt {w : World} {k : Nat} (s : ByteArray) (p : Nat) : Upd (fun j => j = k) w (w.iterAt k s p) :=
  ⟨rfl, rfl, rfl, by rw [Lib.iterAt_size]; exact Nat.le_refl _, fun j _ hj => Lib.iterAt_other w k j s p hj⟩
/-- The next letter. -/
theorem next_letter {w : World} {k i : Nat} {l : List UInt8} (h : w.heap[k]? = some (.stringIter ⟨l.toArray⟩ i)) (hi : i < l.length) (ha : l[i].toNat < 128) :
    ∀ ty, (Instr.next (.pointer (some ⟨k, 0, none⟩)) true ty).run Tryz.prog w = .ok (.tuple #[.bool true, .int .i64 i, .int .i32 (l[i].toNat : Int)]) (w.iterAt k ⟨l.toArray⟩ (i + 1)) := by
  intro ty
  have hs : i < (⟨l.toArray⟩ : ByteArray).size := by show i < l.toArray.size; simpa using hi
  have he : (⟨l.toArray⟩ : ByteArray)[i]'hs = l[i] := by show l.toArray[i]'_ = _; simp
  have := Lib.run_next_ascii_at (P := Tryz.prog) w k ⟨l.toArray⟩ i ty h hs (by rw [he]; exact ha)
  rw [he] at this
  exact this
theorem next_none {w : World} {k : Nat} {l : List UInt8} (h : w.heap[k]? = some (.stringIter ⟨l.toArray⟩ l.length)) :
    ∀ ty, (Instr.next (.pointer (some ⟨k, 0, none⟩)) true ty).run Tryz.prog w = .ok (.tuple #[.bool false]) w := by
  intro ty
  exact Lib.run_next_end_at (P := Tryz.prog) w k ⟨l.toArray⟩ l.length ty h (by show ¬ l.length < l.toArray.size; simp)
theorem lets_all {Q : List UInt8 → Prop} (h : ∀ l ∈ [[73], [83], [83, 66], [83, 66, 78], [83, 66, 79, 67, 88], [83, 66, 79, 86], [83, 66, 79, 80, 68, 78], [83, 66, 79, 80, 73, 78], [83, 66, 79], [83, 66, 79, 73, 78, 88], [83, 66, 79, 73, 76], [83, 66, 79, 73], []], Q l) (k : Int) : Q (lets k) := by
  have hit : ∀ (p : Prop) [Decidable p] (a b : List UInt8), Q a → Q b → Q (if p then a else b) := fun p _ a b ha hb => by split <;> assumption
  unfold lets
  repeat (refine hit _ _ _ (h _ (by decide)) ?_)
  exact h _ (by decide)
theorem lets_ascii (k : Int) : ∀ c ∈ lets k, c.toNat < 128 := lets_all (Q := fun l => ∀ c ∈ l, c.toNat < 128) (by decide) k
theorem pv_blank {q : Rq} {pv : Value} (c : UInt8) (h : ∃ a n, pv = .slice a q.parts.length n) : ∃ a n, pvB c pv = .slice a (blankQ q c).parts.length n := by
  obtain ⟨a, n, rfl⟩ := h
  unfold pvB blankQ
  by_cases hc : c = 76
  · subst hc
    exact ⟨none, 0, rfl⟩
  · rw [if_neg hc]
    exact ⟨a, n, by simp only [apply_ite Rq.parts, if_neg hc, ite_self]⟩
theorem take_fold {α β : Type} (f : β → α → β) (b : β) (l : List α) (i : Nat) (h : i < l.length) : (l.take (i + 1)).foldl f b = f ((l.take i).foldl f b) l[i] := by
  rw [List.take_add_one, List.getElem?_eq_getElem h, Option.toList_some, List.foldl_append]
  rfl
theorem blank_kind (q : Rq) (c : UInt8) : (blankQ q c).kind = q.kind := by
  unfold blankQ
  simp only [apply_ite Rq.kind, ite_self]
instance (q : Rq) (l : List UInt8) : Decidable (onlyQ q l) := by unfold onlyQ; infer_instance
instance (q : Rq) : Decidable (rightQ q) := by unfold rightQ; infer_instance
def zeroQ : Rq := ⟨0, 0, [], [], [], [], [], [], 0, 0, 0, 0, 0, []⟩
def ckQ (q : Rq) : Int := if rightQ q then 0 else 4
theorem cells14 {q : Rq} {pv : Value} {b : Nat} {w : World} (h : ∀ j v, (rqC q pv)[j]? = some v → w.cell? ⟨b, j, none⟩ = some v) : w.cell? ⟨b, 0, none⟩ = some (.int .i64 q.kind) ∧ w.cell? ⟨b, 1, none⟩ = some (.int .i64 q.session) ∧ w.cell? ⟨b, 2, none⟩ = some (.string ⟨q.bucket.toArray⟩) ∧ w.cell? ⟨b, 3, none⟩ = some (.string ⟨q.object.toArray⟩) ∧ w.cell? ⟨b, 4, none⟩ = some (.string ⟨q.version.toArray⟩) ∧ w.cell? ⟨b, 5, none⟩ = some (.string ⟨q.pre.toArray⟩) ∧ w.cell? ⟨b, 6, none⟩ = some (.string ⟨q.delim.toArray⟩) ∧ w.cell? ⟨b, 7, none⟩ = some (.string ⟨q.body.toArray⟩) ∧ w.cell? ⟨b, 8, none⟩ = some (.int .i64 q.ck) ∧ w.cell? ⟨b, 9, none⟩ = some (.int .i64 q.re) ∧ w.cell? ⟨b, 10, none⟩ = some (.int .i64 q.im) ∧ w.cell? ⟨b, 11, none⟩ = some (.int .i64 q.id) ∧ w.cell? ⟨b, 12, none⟩ = some (.int .i64 q.n) ∧ w.cell? ⟨b, 13, none⟩ = some (pv) :=
  ⟨h 0 _ rfl, h 1 _ rfl, h 2 _ rfl, h 3 _ rfl, h 4 _ rfl, h 5 _ rfl, h 6 _ rfl, h 7 _ rfl, h 8 _ rfl, h 9 _ rfl, h 10 _ rfl, h 11 _ rfl, h 12 _ rfl, h 13 _ rfl⟩
theorem cells14_of {q : Rq} {pv : Value} {b : Nat} {w : World} {t : TypeId} (h : w.heap[b]? = some (.cells (rqC q pv) t (0, 0))) : ∀ j v, (rqC q pv)[j]? = some v → w.cell? ⟨b, j, none⟩ = some v := fun j v e => ((cells_of h).1 j).trans e
set_option maxHeartbeats 4000000 in
theorem wCheck (q : Rq) (pv : Value) (w : World) (hP : Ints w pv q.parts) (hs : smallQ q) : Calls Tryz.prog 68 #[rqV q pv] w (Ret (.int .i64 (ckQ q)) w) := by
  have hF := Lib.hid (fun w => wFields q.kind w)
  have hasc := Lib.hid (lets_ascii q.kind)
  have hfit := Lib.hid (fun w' (hu : Upd Non w w') => wFits q pv w' (hP.non hu) hs)
  have hyes : Hid (fitsQ q → emptyQ ((lets q.kind).foldl blankQ q) → ckQ q = 0) := Lib.hid (fun h1 h2 => by unfold ckQ; rw [if_pos (show rightQ q from ⟨h1, (blank_only _ _).1 h2⟩)])
  have hno1 : Hid (¬ fitsQ q → ckQ q = 4) := Lib.hid (fun h1 => by unfold ckQ; rw [if_neg (fun e : rightQ q => h1 e.1)])
  have hno2 : Hid (¬ emptyQ ((lets q.kind).foldl blankQ q) → ckQ q = 4) := Lib.hid (fun h1 => by unfold ckQ; rw [if_neg (fun e : rightQ q => h1 ((blank_only _ _).2 e.2))])
  obtain ⟨pa, pc, rfl, -⟩ := has1 hP
  clear hP hs
  generalize lets q.kind = l at *
  generalize ckQ q = ck at *
  have hbx := heap_alloc_new (w.alloc (.cells (rqC q (.slice pa q.parts.length pc)) 86)) (.cells (rqC zeroQ (.slice none 0 0)) 86)
  have hsz : Hid ((Tryz.prog.info? 86).map (·.size) = some (rqC q (.slice pa q.parts.length pc)).size) := Lib.hid (by kernel_rfl)
  rw [World.size_alloc] at hbx
  unfold rqV rqC
  unfold rqC at hsz hbx
  go_enter Tryz.func68, Tryz.ntmps68
  go_wp2_with ((with_reducible (show wpList _ _ _ (⟨_, Op.store _ _ _, _, _, _, _⟩ :: _) _ _)); refine storeB_list rfl 86 _ _ rfl (w.heap.size + 1) #[.int .i64 q.kind, .int .i64 q.session, .string ⟨q.bucket.toArray⟩, .string ⟨q.object.toArray⟩, .string ⟨q.version.toArray⟩, .string ⟨q.pre.toArray⟩, .string ⟨q.delim.toArray⟩, .string ⟨q.body.toArray⟩, .int .i64 q.ck, .int .i64 q.re, .int .i64 q.im, .int .i64 q.id, .int .i64 q.n, .slice pa q.parts.length pc] _ _ rfl rfl hbx rfl hsz.out (by simp [Value.oneCell']) ?_)
  intro w1 hb1 hu1
  have hA1 : BxOf (rqC q (.slice pa q.parts.length pc)) w w1 := by
    have h0 := BxOf.start (A := rqC q (.slice pa q.parts.length pc)) ((Upd.refl Non (w.alloc (.cells (rqC q (.slice pa q.parts.length pc)) 86))).then_alloc (.cells (rqC zeroQ (.slice none 0 0)) 86))
    exact ⟨fun j v e => hu1.cell (h0.1 j v e) (by simp), h0.2.trans hu1 fun j hj e => by omega⟩
  have hb1' : w1.heap[w.heap.size + 1]? = some (.cells (rqC q (.slice pa q.parts.length pc)) 86 (0, 0)) := hb1
  have y0 : w1.cell? ⟨w.heap.size, 0, none⟩ = some (.int .i64 q.kind) := hA1.1 0 _ rfl
  clear hb1 hu1 hbx hsz
  go_wp2_with fail
  refine (hF.out _).mono ?_
  rintro en w2 ⟨rfl, hu⟩
  have hA2 := hA1.next hu
  have hb2 := hu.heap hb1' fun h => h
  clear hA1 hb1' hu y0 hF
  have hlt2 := heap_lt hb2
  go_wp2_with fail
  go_loopg [] l.length (fun g wr => ∃ (i : Nat) (a : Option Addr) (c : Nat), i + g = l.length ∧ wr.heap[w2.heap.size]? = some (.stringIter ⟨l.toArray⟩ i) ∧ wr.heap[w.heap.size + 1]? = some (.cells (rqC ((l.take i).foldl blankQ q) (.slice a ((l.take i).foldl blankQ q).parts.length c)) 86 (0, 0)) ∧ BxOf (rqC q (.slice pa q.parts.length pc)) w wr)
  case atStart => exact ⟨0, pa, pc, by omega, World.iter_heap _ _ _, (Upd.alloc Non _ _).heap hb2 fun h => h, hA2.next (Upd.alloc Non _ _)⟩
  case round =>
    obtain ⟨i, a, c, hi, hit, hM, hA⟩ := hrel
    clear hb2 hA2
    by_cases hlt : i < l.length
    · obtain ⟨g, rfl⟩ : ∃ g, gk = g + 1 := ⟨gk - 1, by omega⟩
      have hnx := next_letter hit hlt (hasc.out _ (List.getElem_mem hlt))
      have hui : Upd (fun j => j = w2.heap.size) wr (wr.iterAt w2.heap.size ⟨l.toArray⟩ (i + 1)) := upd_iterAt _ _
      have hit2 := Lib.iterAt_heap wr w2.heap.size ⟨l.toArray⟩ i (i + 1) hit
      have hM2 := hui.heap hM (by omega)
      have hA2 : BxOf (rqC q (.slice pa q.parts.length pc)) w (wr.iterAt w2.heap.size ⟨l.toArray⟩ (i + 1)) := ⟨fun j v e => hui.cell (hA.1 j v e) (by simp; omega), hA.2.trans hui fun j hj e => by omega⟩
      have htk := take_fold blankQ q l i hlt
      obtain ⟨W, hW⟩ : ∃ W, wr.iterAt w2.heap.size ⟨l.toArray⟩ (i + 1) = W := ⟨_, rfl⟩
      rw [hW] at hnx hui hit2 hM2 hA2
      clear hW hM hA hit
      have hbl := Lib.hid (wBlank ((l.take i).foldl blankQ q) _ (w.heap.size + 1) l[i] W hM2)
      have hpv := pv_blank l[i] (⟨a, c, rfl⟩ : ∃ a' c', Value.slice a ((l.take i).foldl blankQ q).parts.length c = .slice a' ((l.take i).foldl blankQ q).parts.length c')
      rw [← htk] at hbl hpv
      obtain ⟨a', c', hpv⟩ := hpv
      rw [hpv] at hbl
      generalize hch : l[i] = ch at *
      go_wp2_with fail
      refine hbl.out.mono ?_
      rintro en w3 ⟨rfl, hM3, hu⟩
      go_wp2_with fail
      go_roundg g
      case measure => omega
      case rel => exact ⟨i + 1, a', c', by omega, hu.heap hit2 (by omega), hM3, fun j v e => hu.cell (hA2.1 j v e) (by simp), hA2.2.trans hu fun j hj e => by omega⟩
    · obtain rfl : i = l.length := by omega
      have hnx := next_none hit
      rw [List.take_length] at hM
      have hem := Lib.hid (fun w => wEmpty (l.foldl blankQ q) a c w)
      obtain ⟨y0, y1, y2, y3, y4, y5, y6, y7, y8, y9, y10, y11, y12, y13⟩ := cells14 hA.1
      obtain ⟨z0, z1, z2, z3, z4, z5, z6, z7, z8, z9, z10, z11, z12, z13⟩ := cells14 (cells14_of hM)
      have hf := Lib.hid (hfit.out _ hA.2)
      generalize l.foldl blankQ q = q2 at *
      unfold rqV rqC at hf hem
      by_cases h1 : fitsQ q
      · rw [decide_eq_true h1] at hf
        replace hyes := Lib.hid (hyes.out h1)
        clear hno1 hfit hasc
        by_cases h2 : emptyQ q2
        · rw [decide_eq_true h2] at hem
          obtain rfl := hyes.out h2
          go_wp2_with fail
          refine hf.out.mono ?_
          rintro en w3 ⟨rfl, hu⟩
          have hU := hA.2.trans hu fun _ _ h => h
          obtain ⟨z0, z1, z2, z3, z4, z5, z6, z7, z8, z9, z10, z11, z12, z13⟩ := cells14 (cells14_of (hu.heap hM fun h => h))
          clear y0 y1 y2 y3 y4 y5 y6 y7 y8 y9 y10 y11 y12 y13 hM hit hA hu
          go_wp2_with fail
          refine (hem.out _).mono ?_
          rintro en w4 ⟨rfl, hu⟩
          have hU2 := hU.trans hu fun _ _ h => h
          clear z0 z1 z2 z3 z4 z5 z6 z7 z8 z9 z10 z11 z12 z13 hu hU
          go_wp2_with fail
          go_ret
          exact ⟨rfl, hU2⟩
        · rw [decide_eq_false h2] at hem
          obtain rfl := hno2.out h2
          go_wp2_with fail
          refine hf.out.mono ?_
          rintro en w3 ⟨rfl, hu⟩
          have hU := hA.2.trans hu fun _ _ h => h
          obtain ⟨z0, z1, z2, z3, z4, z5, z6, z7, z8, z9, z10, z11, z12, z13⟩ := cells14 (cells14_of (hu.heap hM fun h => h))
          clear y0 y1 y2 y3 y4 y5 y6 y7 y8 y9 y10 y11 y12 y13 hM hit hA hu
          go_wp2_with fail
          refine (hem.out _).mono ?_
          rintro en w4 ⟨rfl, hu⟩
          have hU2 := hU.trans hu fun _ _ h => h
          clear z0 z1 z2 z3 z4 z5 z6 z7 z8 z9 z10 z11 z12 z13 hu hU
          go_wp2_with fail
          go_ret
          exact ⟨rfl, hU2⟩
      · rw [decide_eq_false h1] at hf
        obtain rfl := hno1.out h1
        clear hyes hno2 hfit hasc hem
        go_wp2_with fail
        refine hf.out.mono ?_
        rintro en w3 ⟨rfl, hu⟩
        have hU := hA.2.trans hu fun _ _ h => h
        clear y0 y1 y2 y3 y4 y5 y6 y7 y8 y9 y10 y11 y12 y13 z0 z1 z2 z3 z4 z5 z6 z7 z8 z9 z10 z11 z12 z13 hM hit hA hu
        go_wp2_with fail
        go_ret
        exact ⟨rfl, hU⟩
end Go.Proofs.YtogekobpjjmnjaaGreat
