/- The walks over package wire: heads, texts, and what may asks of each element. -/
import Derived.Test.YtogekobpjjmnjaaGreatMWaA
import Derived.Test.YtogekobpjjmnjaaGreatMWrA
namespace Go.Proofs.YtogekobpjjmnjaaGreat
open Go.RowKit Go.Amb
set_option linter.unusedVariables false
set_option linter.unusedSimpArgs false
set_option maxRecDepth 100000
attribute [local go_sem ↓] Go.wp_at_zero Go.wp_at_succ
theorem wLong (s : List UInt8) (hs : s.length ≤ maxLen) (w : World) : Calls Tryz.prog 95 #[.string ⟨s.toArray⟩] w (Ret (.bool (longT 1048576 s)) w) := by
  unfold maxLen at hs
  unfold longT
  have e : decide (1048576 < s.length) = decide ((1048576 : Int) < (s.length : Int)) := by
    rw [decide_eq_decide]; omega
  rw [e]
  clear e
  go_enter Tryz.func95, Tryz.ntmps95
  go_wp2_with fail
  go_ret
  exact ⟨rfl, Upd.refl _ _⟩
theorem wT.ask (s : List UInt8) (hs : s.length ≤ maxLen) (w : World) : Calls Tryz.prog 95 #[.string ⟨s.toArray⟩] w (Ret (.bool (longT 1048576 s)) w) := wLong s hs w
set_option maxHeartbeats 2000000 in
theorem wT.idx (v : Value) (l : List (List UInt8)) (w : World) (hT : Has w 1 v l.length (l.map (fun s => .string ⟨s.toArray⟩))) (hl : ∀ s ∈ l, s.length ≤ maxLen) :
    Calls Tryz.prog 104 #[v, .func (.func 95) #[] #[]] w (fun en w' => ∃ r, en = .returned (.int .i64 r) ∧ (0 ≤ r ↔ l.any (longT 1048576) = true) ∧ Upd Non w w') := by
  obtain ⟨a, c, rfl, hlc, hcm, hx⟩ := has1 hT
  unfold maxLen at hcm
  have hask := Lib.hid (fun x (hx : x ∈ l) w => wT.ask x (hl x hx) w)
  have hany := Lib.hid (any_snoc (longT 1048576) l)
  have hhit := any_hit (longT 1048576) l
  obtain ⟨bb, hbb⟩ : ∃ b, l.any (longT 1048576) = b := ⟨_, rfl⟩
  rw [hbb] at hhit ⊢
  replace hbb := Lib.hid hbb
  replace hhit := Lib.hid hhit
  replace hx := Lib.hid (fun k (hk : k < l.length) => hx k (by rw [List.length_map]; exact hk) hk)
  simp only [List.getElem_map] at hx
  clear hT hl
  go_enter Tryz.func104, Tryz.ntmps104
  go_wp2_with fail
  go_loopw [8] (fun iv wr => ∃ (k : Nat), iv = .int .i64 (k : Int) ∧ k ≤ l.length ∧ Hid ((l.take k).any (longT 1048576) = false) ∧ Upd Non w wr) (fun iv _ => l.length - (intOf iv).toNat)
  case atStart => exact ⟨0, rfl, Nat.zero_le _, Lib.hid rfl, Upd.refl _ _⟩
  case round =>
    obtain ⟨k, rfl, hk, hno, hU⟩ := hrel
    by_cases hlt : k < l.length
    · have hltI : (k : Int) < (l.length : Int) := by omega
      have hk0 : (0 : Int) ≤ (k : Int) := by omega
      obtain ⟨gg, off, rfl, x0⟩ := hx.out k hlt
      replace x0 := hU.cell x0 fun h => h
      have hr := hask.out _ (List.getElem_mem hlt)
      have hn := hany.out k hlt
      rw [hno.out, Bool.false_or] at hn
      have hh := hhit.out k hlt
      generalize l[k] = y at *
      obtain ⟨q, hq⟩ : ∃ q, (longT 1048576) y = q := ⟨_, rfl⟩
      rw [hq] at hr hn hh
      replace hr := Lib.hid hr
      replace hn := Lib.hid hn
      replace hh := Lib.hid hh
      clear hq
      go_wp2_with fail
      refine (hr.out _).mono ?_
      rintro en w1 ⟨rfl, hu⟩
      have hU1 := hU.trans hu fun _ _ h => h
      clear hu x0
      cases q with
      | true =>
        go_wp2_with fail
        go_ret
        exact ⟨_, rfl, iff_of_true hk0 (hh.out (by trivial)), hU1⟩
      | false =>
        go_wp2_with fail
        go_roundw
        case rel => exact ⟨k + 1, by go_num, by omega, hn, hU1⟩
        case measure => simp [intOf]; omega
    · have hltI : ¬ (k : Int) < (l.length : Int) := by omega
      obtain rfl : k = l.length := by omega
      rw [List.take_length] at hno
      go_wp2_with fail
      go_ret
      exact ⟨_, rfl, iff_of_false (by omega) (by rw [← hbb.out, hno.out]; simp), hU⟩
theorem wT.any (v : Value) (l : List (List UInt8)) (w : World) (hT : Has w 1 v l.length (l.map (fun s => .string ⟨s.toArray⟩))) (hl : ∀ s ∈ l, s.length ≤ maxLen) :
    Calls Tryz.prog 96 #[v, .func (.func 95) #[] #[]] w (Ret (.bool (l.any (longT 1048576))) w) := by
  have hi := Lib.hid (wT.idx v l w hT hl)
  obtain ⟨a, c, rfl, -⟩ := has1 hT
  generalize l.any (longT 1048576) = b at *
  clear hT hl
  go_enter Tryz.func96, Tryz.ntmps96
  go_wp2_with fail
  refine hi.out.mono ?_
  rintro en w1 ⟨q, rfl, hq, hu⟩
  by_cases h0 : 0 ≤ q
  · obtain rfl : b = true := hq.1 h0
    go_wp2_with fail
    go_ret
    exact ⟨rfl, hu⟩
  · obtain rfl : b = false := by
      cases b with
      | false => rfl
      | true => exact absurd (hq.2 rfl) h0
    go_wp2_with fail
    go_ret
    exact ⟨rfl, hu⟩
theorem long_iff (ts : List (List UInt8)) : ts.any (longT 1048576) = false ↔ ∀ s ∈ ts, s.length ≤ 1048576 := by
  simp [longT]
theorem wTexts (tv : Value) (ts : List (List UInt8)) (w : World) (hT : Txts w tv ts) (hl : ∀ s ∈ ts, s.length ≤ maxLen) : Calls Tryz.prog 75 #[tv] w (Ret (.bool (decide (txOk ts))) w) := by
  have hA := Lib.hid (wT.any tv ts w hT hl)
  obtain ⟨a, c, rfl, hlc, hcm, -⟩ := has1 hT
  unfold maxLen at hcm
  have hli := long_iff ts
  generalize ts.any (longT 1048576) = b at *
  have hr : txOk ts ↔ ts.length ≤ 65535 ∧ b = false := by unfold txOk; rw [hli]
  obtain ⟨r, hrr⟩ : ∃ r, decide (txOk ts) = r := ⟨_, rfl⟩
  rw [hrr]
  have hyes : Hid (ts.length ≤ 65535 ∧ b = false → r = true) := Lib.hid (fun h => by rw [← hrr]; exact decide_eq_true (hr.2 h))
  have hno : Hid (¬ (ts.length ≤ 65535 ∧ b = false) → r = false) := Lib.hid (fun h => by rw [← hrr]; exact decide_eq_false (fun e => h (hr.1 e)))
  clear hr hrr hli hT hl
  by_cases h1 : ts.length ≤ 65535
  · have h1I : (ts.length : Int) ≤ 65535 := by omega
    cases b with
    | false =>
      obtain rfl : r = true := hyes.out ⟨h1, by trivial⟩
      go_enter Tryz.func75, Tryz.ntmps75
      go_wp2_with fail
      refine hA.out.mono ?_
      rintro en w1 ⟨rfl, hu⟩
      go_wp2_with fail
      go_ret
      exact ⟨rfl, hu⟩
    | true =>
      obtain rfl : r = false := hno.out (fun e => by simpa using e.2)
      go_enter Tryz.func75, Tryz.ntmps75
      go_wp2_with fail
      refine hA.out.mono ?_
      rintro en w1 ⟨rfl, hu⟩
      go_wp2_with fail
      go_ret
      exact ⟨rfl, hu⟩
  · have h1I : ¬ (ts.length : Int) ≤ 65535 := by omega
    obtain rfl : r = false := hno.out (fun e => h1 e.1)
    go_enter Tryz.func75, Tryz.ntmps75
    go_wp2_with fail
    go_ret
    exact ⟨rfl, Upd.refl _ _⟩
theorem wHeads (h : Hd) (w : World) : Calls Tryz.prog 76 #[hdV h] w (Ret (.bool (decide (hdOk h))) w) := by
  have a1 := Lib.hid (fun w => wAmong h.size 65535 w)
  have a2 := Lib.hid (fun w => wTagCheck h.re h.im w)
  have hr : hdOk h ↔ (0 ≤ h.size ∧ h.size ≤ 65535) ∧ tagOk h.re h.im := Iff.rfl
  obtain ⟨r, hrr⟩ : ∃ r, decide (hdOk h) = r := ⟨_, rfl⟩
  rw [hrr]
  have hyes : Hid ((0 ≤ h.size ∧ h.size ≤ 65535) ∧ tagOk h.re h.im → r = true) := Lib.hid (fun e => by rw [← hrr]; exact decide_eq_true (hr.2 e))
  have hno : Hid (¬ ((0 ≤ h.size ∧ h.size ≤ 65535) ∧ tagOk h.re h.im) → r = false) := Lib.hid (fun h => by rw [← hrr]; exact decide_eq_false (fun e => h (hr.1 e)))
  clear hr hrr
  obtain ⟨size, re, im, gone, null⟩ := h
  unfold hdV
  dsimp only at *
  have hst : BxOf #[.int .i64 size, .int .i64 re, .int .i64 im, .bool gone, .bool null] w (w.alloc (.cells #[.int .i64 size, .int .i64 re, .int .i64 im, .bool gone, .bool null] 27)) := BxOf.start (Upd.refl _ _)
  go_enter Tryz.func76, Tryz.ntmps76
  go_wp2_with fail
  refine (a1.out _).mono ?_
  rintro en w1 ⟨rfl, hu⟩
  have hB := hst.next hu
  clear hu hst a1
  by_cases q1 : 0 ≤ size ∧ size ≤ 65535
  case neg =>
    obtain rfl : r = false := hno.out (fun e => q1 e.1)
    rw [decide_eq_false q1]
    go_wp2_with fail
    go_ret
    exact ⟨rfl, hB.upd⟩
  rw [decide_eq_true q1]
  have y1 : w1.cell? ⟨w.heap.size, 1, none⟩ = some (.int .i64 re) := hB.1 1 _ rfl
  have y2 : w1.cell? ⟨w.heap.size, 2, none⟩ = some (.int .i64 im) := hB.1 2 _ rfl
  unfold tagV at a2
  go_wp2_with fail
  refine (a2.out _).mono ?_
  rintro en w2 ⟨rfl, hu⟩
  have hB2 := hB.next hu
  clear hu hB y1 y2 a2
  rcases ckT_or re im with ⟨hT, hc⟩ | ⟨hT, hc⟩
  · rw [hc]
    replace hT := Lib.hid hT
    obtain rfl : r = true := hyes.out ⟨q1, hT.out⟩
    go_wp2_with fail
    go_ret
    exact ⟨rfl, hB2.upd⟩
  · rw [hc]
    replace hT := Lib.hid hT
    obtain rfl : r = false := hno.out (fun e => hT.out e.2)
    go_wp2_with fail
    go_ret
    exact ⟨rfl, hB2.upd⟩
def upC (x : Up) : List Value := [.string ⟨x.object.toArray⟩, .int .i64 x.id]
def ptC (x : Pt) : List Value := [.int .i64 x.n, .int .i64 x.head.size, .int .i64 x.head.re, .int .i64 x.head.im, .bool x.head.gone, .bool x.head.null]
abbrev Ups (w : World) (v : Value) (l : List Up) : Prop := Has w 2 v l.length (l.flatMap upC)
abbrev Pts (w : World) (v : Value) (l : List Pt) : Prop := Has w 6 v l.length (l.flatMap ptC)
theorem tx_one (s : List UInt8) : txOk [s] ↔ s.length ≤ 1048576 := by
  unfold txOk
  simp
theorem one_txt (w : World) (s : List UInt8) : Txts (w.alloc (.cells #[.string ⟨s.toArray⟩] 9)) (.slice (some ⟨w.heap.size, 0, none⟩) 1 1) [s] := has_new w [.string ⟨s.toArray⟩] 9 1 1 rfl (by unfold maxLen; omega)
theorem wMay1 (x : Ln) (hs : x.object.length ≤ maxLen) (w : World) : Calls Tryz.prog 74 #[.agg #[.string ⟨x.object.toArray⟩, .int .i64 x.id, .bool x.latest, .int .i64 x.head.size, .int .i64 x.head.re, .int .i64 x.head.im, .bool x.head.gone, .bool x.head.null]] w (Ret (.bool (!decide (lnOk x))) w) := by
  have hr : lnOk x ↔ txOk [x.object] ∧ hdOk x.head := by unfold lnOk; rw [tx_one]
  obtain ⟨r, hrr⟩ : ∃ r, (!decide (lnOk x)) = r := ⟨_, rfl⟩
  rw [hrr]
  have hyes : Hid (txOk [x.object] ∧ hdOk x.head → r = false) := Lib.hid (fun e => by rw [← hrr, decide_eq_true (hr.2 e)]; rfl)
  have hno : Hid (¬ (txOk [x.object] ∧ hdOk x.head) → r = true) := Lib.hid (fun h => by rw [← hrr, decide_eq_false (fun e => h (hr.1 e))]; rfl)
  clear hr hrr
  have a1 := Lib.hid (fun v w h => wTexts v [x.object] w h (fun s hs2 => by rw [List.mem_singleton.1 hs2]; exact hs))
  have a2 := Lib.hid (fun w => wHeads x.head w)
  unfold hdV at a2
  have ho := Lib.hid (fun w => one_txt w x.object)
  obtain ⟨ob, id, lat, ⟨size, re, im, gone, null⟩⟩ := x
  dsimp only at *
  have hst : BxOf #[.string ⟨ob.toArray⟩, .int .i64 id, .bool lat, .int .i64 size, .int .i64 re, .int .i64 im, .bool gone, .bool null] w (w.alloc (.cells #[.string ⟨ob.toArray⟩, .int .i64 id, .bool lat, .int .i64 size, .int .i64 re, .int .i64 im, .bool gone, .bool null] 96)) := BxOf.start (Upd.refl _ _)
  have ho1 := ho.out (w.alloc (.cells #[.string ⟨ob.toArray⟩, .int .i64 id, .bool lat, .int .i64 size, .int .i64 re, .int .i64 im, .bool gone, .bool null] 96))
  rw [World.size_alloc] at ho1
  go_enter Tryz.func74, Tryz.ntmps74
  go_wp2_with fail
  refine (a1.out _ _ ho1).mono ?_
  rintro en w1 ⟨rfl, hu⟩
  have hB := hst.next ((Upd.alloc Non _ _).trans hu fun _ _ h => h)
  clear hu hst a1 ho ho1
  by_cases q1 : txOk [ob]
  case neg =>
    obtain rfl : r = true := hno.out (fun e => q1 e.1)
    rw [decide_eq_false q1]
    go_wp2_with fail
    go_ret
    exact ⟨rfl, hB.upd⟩
  rw [decide_eq_true q1]
  have y3 : w1.cell? ⟨w.heap.size, 3, none⟩ = some (.int .i64 size) := hB.1 3 _ rfl
  have y4 : w1.cell? ⟨w.heap.size, 4, none⟩ = some (.int .i64 re) := hB.1 4 _ rfl
  have y5 : w1.cell? ⟨w.heap.size, 5, none⟩ = some (.int .i64 im) := hB.1 5 _ rfl
  have y6 : w1.cell? ⟨w.heap.size, 6, none⟩ = some (.bool gone) := hB.1 6 _ rfl
  have y7 : w1.cell? ⟨w.heap.size, 7, none⟩ = some (.bool null) := hB.1 7 _ rfl
  replace q1 := Lib.hid q1
  go_wp2_with fail
  refine (a2.out _).mono ?_
  rintro en w2 ⟨rfl, hu⟩
  have hB2 := hB.next hu
  clear hu hB y3 y4 y5 y6 y7 a2
  by_cases q2 : hdOk ⟨size, re, im, gone, null⟩
  · rw [decide_eq_true q2]
    obtain rfl : r = false := hyes.out ⟨q1.out, q2⟩
    replace q2 := Lib.hid q2
    go_wp2_with fail
    go_ret
    exact ⟨rfl, hB2.upd⟩
  · rw [decide_eq_false q2]
    obtain rfl : r = true := hno.out (fun e => q2 e.2)
    replace q2 := Lib.hid q2
    go_wp2_with fail
    go_ret
    exact ⟨rfl, hB2.upd⟩
theorem wMay2 (x : Up) (hs : x.object.length ≤ maxLen) (w : World) : Calls Tryz.prog 77 #[.agg #[.string ⟨x.object.toArray⟩, .int .i64 x.id]] w (Ret (.bool (!decide (upOk x))) w) := by
  have hr : upOk x ↔ txOk [x.object] := by unfold upOk; rw [tx_one]
  have e : decide (upOk x) = decide (txOk [x.object]) := decide_eq_decide.2 hr
  rw [e]
  have a1 := Lib.hid (fun v w h => wTexts v [x.object] w h (fun s hs2 => by rw [List.mem_singleton.1 hs2]; exact hs))
  have ho := Lib.hid (fun w => one_txt w x.object)
  generalize decide (txOk [x.object]) = r at *
  obtain ⟨ob, id⟩ := x
  clear hr e
  dsimp only at *
  have ho1 := ho.out (w.alloc (.cells #[.string ⟨ob.toArray⟩, .int .i64 id] 59))
  rw [World.size_alloc] at ho1
  go_enter Tryz.func77, Tryz.ntmps77
  go_wp2_with fail
  refine (a1.out _ _ ho1).mono ?_
  rintro en w1 ⟨rfl, hu⟩
  go_wp2_with fail
  go_ret
  exact ⟨rfl, ((Upd.alloc Non w _).then_alloc _).trans hu fun _ _ h => h⟩
theorem wMay3 (x : Pt) (_ : True) (w : World) : Calls Tryz.prog 78 #[.agg #[.int .i64 x.n, .int .i64 x.head.size, .int .i64 x.head.re, .int .i64 x.head.im, .bool x.head.gone, .bool x.head.null]] w (Ret (.bool (!decide (ptOk x))) w) := by
  have hr : ptOk x ↔ (0 ≤ x.n ∧ x.n ≤ 65535) ∧ hdOk x.head := Iff.rfl
  obtain ⟨r, hrr⟩ : ∃ r, (!decide (ptOk x)) = r := ⟨_, rfl⟩
  rw [hrr]
  have hyes : Hid ((0 ≤ x.n ∧ x.n ≤ 65535) ∧ hdOk x.head → r = false) := Lib.hid (fun e => by rw [← hrr, decide_eq_true (hr.2 e)]; rfl)
  have hno : Hid (¬ ((0 ≤ x.n ∧ x.n ≤ 65535) ∧ hdOk x.head) → r = true) := Lib.hid (fun h => by rw [← hrr, decide_eq_false (fun e => h (hr.1 e))]; rfl)
  clear hr hrr
  have a1 := Lib.hid (fun w => wAmong x.n 65535 w)
  have a2 := Lib.hid (fun w => wHeads x.head w)
  unfold hdV at a2
  obtain ⟨n, ⟨size, re, im, gone, null⟩⟩ := x
  dsimp only at *
  have hst : BxOf #[.int .i64 n, .int .i64 size, .int .i64 re, .int .i64 im, .bool gone, .bool null] w (w.alloc (.cells #[.int .i64 n, .int .i64 size, .int .i64 re, .int .i64 im, .bool gone, .bool null] 61)) := BxOf.start (Upd.refl _ _)
  go_enter Tryz.func78, Tryz.ntmps78
  go_wp2_with fail
  refine (a1.out _).mono ?_
  rintro en w1 ⟨rfl, hu⟩
  have hB := hst.next hu
  clear hu hst a1
  by_cases q1 : 0 ≤ n ∧ n ≤ 65535
  case neg =>
    obtain rfl : r = true := hno.out (fun e => q1 e.1)
    rw [decide_eq_false q1]
    go_wp2_with fail
    go_ret
    exact ⟨rfl, hB.upd⟩
  rw [decide_eq_true q1]
  have y3 : w1.cell? ⟨w.heap.size, 1, none⟩ = some (.int .i64 size) := hB.1 1 _ rfl
  have y4 : w1.cell? ⟨w.heap.size, 2, none⟩ = some (.int .i64 re) := hB.1 2 _ rfl
  have y5 : w1.cell? ⟨w.heap.size, 3, none⟩ = some (.int .i64 im) := hB.1 3 _ rfl
  have y6 : w1.cell? ⟨w.heap.size, 4, none⟩ = some (.bool gone) := hB.1 4 _ rfl
  have y7 : w1.cell? ⟨w.heap.size, 5, none⟩ = some (.bool null) := hB.1 5 _ rfl
  go_wp2_with fail
  refine (a2.out _).mono ?_
  rintro en w2 ⟨rfl, hu⟩
  have hB2 := hB.next hu
  clear hu hB y3 y4 y5 y6 y7 a2
  by_cases q2 : hdOk ⟨size, re, im, gone, null⟩
  · rw [decide_eq_true q2]
    obtain rfl : r = false := hyes.out ⟨q1, q2⟩
    replace q2 := Lib.hid q2
    go_wp2_with fail
    go_ret
    exact ⟨rfl, hB2.upd⟩
  · rw [decide_eq_false q2]
    obtain rfl : r = true := hno.out (fun e => q2 e.2)
    replace q2 := Lib.hid q2
    go_wp2_with fail
    go_ret
    exact ⟨rfl, hB2.upd⟩
def badL (x : Ln) : Bool := !decide (lnOk x)
theorem wL.ask (x : Ln) (hs : x.object.length ≤ maxLen) (w : World) : Calls Tryz.prog 74 #[.agg #[.string ⟨x.object.toArray⟩, .int .i64 x.id, .bool x.latest, .int .i64 x.head.size, .int .i64 x.head.re, .int .i64 x.head.im, .bool x.head.gone, .bool x.head.null]] w (Ret (.bool (badL x)) w) := wMay1 x hs w
set_option maxHeartbeats 2000000 in
theorem wL.idx (v : Value) (l : List Ln) (w : World) (hT : Has w 8 v l.length (l.flatMap lnC)) (hl : ∀ s ∈ l, s.object.length ≤ maxLen) :
    Calls Tryz.prog 97 #[v, .func (.func 74) #[] #[]] w (fun en w' => ∃ r, en = .returned (.int .i64 r) ∧ (0 ≤ r ↔ l.any (badL) = true) ∧ Upd Non w w') := by
  obtain ⟨a, c, rfl, hlc, hcm, hx⟩ := has_rows (f := lnC) (m := 8) (fun _ => rfl) hT
  unfold maxLen at hcm
  have hask := Lib.hid (fun x (hx : x ∈ l) w => wL.ask x (hl x hx) w)
  have hany := Lib.hid (any_snoc (badL) l)
  have hhit := any_hit (badL) l
  obtain ⟨bb, hbb⟩ : ∃ b, l.any (badL) = b := ⟨_, rfl⟩
  rw [hbb] at hhit ⊢
  replace hbb := Lib.hid hbb
  replace hhit := Lib.hid hhit
  replace hx := Lib.hid hx
  clear hT hl
  go_enter Tryz.func97, Tryz.ntmps97
  go_wp2_with fail
  go_loopw [8] (fun iv wr => ∃ (k : Nat), iv = .int .i64 (k : Int) ∧ k ≤ l.length ∧ Hid ((l.take k).any (badL) = false) ∧ Upd Non w wr) (fun iv _ => l.length - (intOf iv).toNat)
  case atStart => exact ⟨0, rfl, Nat.zero_le _, Lib.hid rfl, Upd.refl _ _⟩
  case round =>
    obtain ⟨k, rfl, hk, hno, hU⟩ := hrel
    by_cases hlt : k < l.length
    · have hltI : (k : Int) < (l.length : Int) := by omega
      have hk0 : (0 : Int) ≤ (k : Int) := by omega
      obtain ⟨gg, off, rfl, x0⟩ := hx.out k hlt
      replace x0 := fun j u hu => hU.cell (x0 j u hu) fun h => h
      have hr := hask.out _ (List.getElem_mem hlt)
      have hn := hany.out k hlt
      rw [hno.out, Bool.false_or] at hn
      have hh := hhit.out k hlt
      generalize l[k] = y at *
      obtain ⟨q, hq⟩ : ∃ q, (badL) y = q := ⟨_, rfl⟩
      rw [hq] at hr hn hh
      replace hr := Lib.hid hr
      replace hn := Lib.hid hn
      replace hh := Lib.hid hh
      clear hq
      have z0 : wr.cell? ⟨gg, off + k * 8, none⟩ = some (.string ⟨y.object.toArray⟩) := x0 0 _ rfl; have z1 : wr.cell? ⟨gg, off + k * 8 + 1, none⟩ = some (.int .i64 y.id) := x0 1 _ rfl; have z2 : wr.cell? ⟨gg, off + k * 8 + 2, none⟩ = some (.bool y.latest) := x0 2 _ rfl; have z3 : wr.cell? ⟨gg, off + k * 8 + 3, none⟩ = some (.int .i64 y.head.size) := x0 3 _ rfl; have z4 : wr.cell? ⟨gg, off + k * 8 + 4, none⟩ = some (.int .i64 y.head.re) := x0 4 _ rfl; have z5 : wr.cell? ⟨gg, off + k * 8 + 5, none⟩ = some (.int .i64 y.head.im) := x0 5 _ rfl; have z6 : wr.cell? ⟨gg, off + k * 8 + 6, none⟩ = some (.bool y.head.gone) := x0 6 _ rfl; have z7 : wr.cell? ⟨gg, off + k * 8 + 7, none⟩ = some (.bool y.head.null) := x0 7 _ rfl
      clear x0
      go_wp2_with fail
      refine (hr.out _).mono ?_
      rintro en w1 ⟨rfl, hu⟩
      have hU1 := hU.trans hu fun _ _ h => h
      clear hu
      cases q with
      | true =>
        go_wp2_with fail
        go_ret
        exact ⟨_, rfl, iff_of_true hk0 (hh.out (by trivial)), hU1⟩
      | false =>
        go_wp2_with fail
        go_roundw
        case rel => exact ⟨k + 1, by go_num, by omega, hn, hU1⟩
        case measure => simp [intOf]; omega
    · have hltI : ¬ (k : Int) < (l.length : Int) := by omega
      obtain rfl : k = l.length := by omega
      rw [List.take_length] at hno
      go_wp2_with fail
      go_ret
      exact ⟨_, rfl, iff_of_false (by omega) (by rw [← hbb.out, hno.out]; simp), hU⟩
theorem wL.any (v : Value) (l : List Ln) (w : World) (hT : Has w 8 v l.length (l.flatMap lnC)) (hl : ∀ s ∈ l, s.object.length ≤ maxLen) :
    Calls Tryz.prog 81 #[v, .func (.func 74) #[] #[]] w (Ret (.bool (l.any (badL))) w) := by
  have hi := Lib.hid (wL.idx v l w hT hl)
  obtain ⟨a, c, rfl, -⟩ := has_rows (f := lnC) (m := 8) (fun _ => rfl) hT
  generalize l.any (badL) = b at *
  clear hT hl
  go_enter Tryz.func81, Tryz.ntmps81
  go_wp2_with fail
  refine hi.out.mono ?_
  rintro en w1 ⟨q, rfl, hq, hu⟩
  by_cases h0 : 0 ≤ q
  · obtain rfl : b = true := hq.1 h0
    go_wp2_with fail
    go_ret
    exact ⟨rfl, hu⟩
  · obtain rfl : b = false := by
      cases b with
      | false => rfl
      | true => exact absurd (hq.2 rfl) h0
    go_wp2_with fail
    go_ret
    exact ⟨rfl, hu⟩
def badU (x : Up) : Bool := !decide (upOk x)
theorem wU.ask (x : Up) (hs : x.object.length ≤ maxLen) (w : World) : Calls Tryz.prog 77 #[.agg #[.string ⟨x.object.toArray⟩, .int .i64 x.id]] w (Ret (.bool (badU x)) w) := wMay2 x hs w
set_option maxHeartbeats 2000000 in
theorem wU.idx (v : Value) (l : List Up) (w : World) (hT : Has w 2 v l.length (l.flatMap upC)) (hl : ∀ s ∈ l, s.object.length ≤ maxLen) :
    Calls Tryz.prog 98 #[v, .func (.func 77) #[] #[]] w (fun en w' => ∃ r, en = .returned (.int .i64 r) ∧ (0 ≤ r ↔ l.any (badU) = true) ∧ Upd Non w w') := by
  obtain ⟨a, c, rfl, hlc, hcm, hx⟩ := has_rows (f := upC) (m := 2) (fun _ => rfl) hT
  unfold maxLen at hcm
  have hask := Lib.hid (fun x (hx : x ∈ l) w => wU.ask x (hl x hx) w)
  have hany := Lib.hid (any_snoc (badU) l)
  have hhit := any_hit (badU) l
  obtain ⟨bb, hbb⟩ : ∃ b, l.any (badU) = b := ⟨_, rfl⟩
  rw [hbb] at hhit ⊢
  replace hbb := Lib.hid hbb
  replace hhit := Lib.hid hhit
  replace hx := Lib.hid hx
  clear hT hl
  go_enter Tryz.func98, Tryz.ntmps98
  go_wp2_with fail
  go_loopw [8] (fun iv wr => ∃ (k : Nat), iv = .int .i64 (k : Int) ∧ k ≤ l.length ∧ Hid ((l.take k).any (badU) = false) ∧ Upd Non w wr) (fun iv _ => l.length - (intOf iv).toNat)
  case atStart => exact ⟨0, rfl, Nat.zero_le _, Lib.hid rfl, Upd.refl _ _⟩
  case round =>
    obtain ⟨k, rfl, hk, hno, hU⟩ := hrel
    by_cases hlt : k < l.length
    · have hltI : (k : Int) < (l.length : Int) := by omega
      have hk0 : (0 : Int) ≤ (k : Int) := by omega
      obtain ⟨gg, off, rfl, x0⟩ := hx.out k hlt
      replace x0 := fun j u hu => hU.cell (x0 j u hu) fun h => h
      have hr := hask.out _ (List.getElem_mem hlt)
      have hn := hany.out k hlt
      rw [hno.out, Bool.false_or] at hn
      have hh := hhit.out k hlt
      generalize l[k] = y at *
      obtain ⟨q, hq⟩ : ∃ q, (badU) y = q := ⟨_, rfl⟩
      rw [hq] at hr hn hh
      replace hr := Lib.hid hr
      replace hn := Lib.hid hn
      replace hh := Lib.hid hh
      clear hq
      have z0 : wr.cell? ⟨gg, off + k * 2, none⟩ = some (.string ⟨y.object.toArray⟩) := x0 0 _ rfl; have z1 : wr.cell? ⟨gg, off + k * 2 + 1, none⟩ = some (.int .i64 y.id) := x0 1 _ rfl
      clear x0
      go_wp2_with fail
      refine (hr.out _).mono ?_
      rintro en w1 ⟨rfl, hu⟩
      have hU1 := hU.trans hu fun _ _ h => h
      clear hu
      cases q with
      | true =>
        go_wp2_with fail
        go_ret
        exact ⟨_, rfl, iff_of_true hk0 (hh.out (by trivial)), hU1⟩
      | false =>
        go_wp2_with fail
        go_roundw
        case rel => exact ⟨k + 1, by go_num, by omega, hn, hU1⟩
        case measure => simp [intOf]; omega
    · have hltI : ¬ (k : Int) < (l.length : Int) := by omega
      obtain rfl : k = l.length := by omega
      rw [List.take_length] at hno
      go_wp2_with fail
      go_ret
      exact ⟨_, rfl, iff_of_false (by omega) (by rw [← hbb.out, hno.out]; simp), hU⟩
theorem wU.any (v : Value) (l : List Up) (w : World) (hT : Has w 2 v l.length (l.flatMap upC)) (hl : ∀ s ∈ l, s.object.length ≤ maxLen) :
    Calls Tryz.prog 82 #[v, .func (.func 77) #[] #[]] w (Ret (.bool (l.any (badU))) w) := by
  have hi := Lib.hid (wU.idx v l w hT hl)
  obtain ⟨a, c, rfl, -⟩ := has_rows (f := upC) (m := 2) (fun _ => rfl) hT
  generalize l.any (badU) = b at *
  clear hT hl
  go_enter Tryz.func82, Tryz.ntmps82
  go_wp2_with fail
  refine hi.out.mono ?_
  rintro en w1 ⟨q, rfl, hq, hu⟩
  by_cases h0 : 0 ≤ q
  · obtain rfl : b = true := hq.1 h0
    go_wp2_with fail
    go_ret
    exact ⟨rfl, hu⟩
  · obtain rfl : b = false := by
      cases b with
      | false => rfl
      | true => exact absurd (hq.2 rfl) h0
    go_wp2_with fail
    go_ret
    exact ⟨rfl, hu⟩
def badP (x : Pt) : Bool := !decide (ptOk x)
theorem wQ.ask (x : Pt) (_ : True) (w : World) : Calls Tryz.prog 78 #[.agg #[.int .i64 x.n, .int .i64 x.head.size, .int .i64 x.head.re, .int .i64 x.head.im, .bool x.head.gone, .bool x.head.null]] w (Ret (.bool (badP x)) w) := wMay3 x trivial w
set_option maxHeartbeats 2000000 in
theorem wQ.idx (v : Value) (l : List Pt) (w : World) (hT : Has w 6 v l.length (l.flatMap ptC)) (hl : ∀ s ∈ l, True) :
    Calls Tryz.prog 99 #[v, .func (.func 78) #[] #[]] w (fun en w' => ∃ r, en = .returned (.int .i64 r) ∧ (0 ≤ r ↔ l.any (badP) = true) ∧ Upd Non w w') := by
  obtain ⟨a, c, rfl, hlc, hcm, hx⟩ := has_rows (f := ptC) (m := 6) (fun _ => rfl) hT
  unfold maxLen at hcm
  have hask := Lib.hid (fun x (hx : x ∈ l) w => wQ.ask x (hl x hx) w)
  have hany := Lib.hid (any_snoc (badP) l)
  have hhit := any_hit (badP) l
  obtain ⟨bb, hbb⟩ : ∃ b, l.any (badP) = b := ⟨_, rfl⟩
  rw [hbb] at hhit ⊢
  replace hbb := Lib.hid hbb
  replace hhit := Lib.hid hhit
  replace hx := Lib.hid hx
  clear hT hl
  go_enter Tryz.func99, Tryz.ntmps99
  go_wp2_with fail
  go_loopw [8] (fun iv wr => ∃ (k : Nat), iv = .int .i64 (k : Int) ∧ k ≤ l.length ∧ Hid ((l.take k).any (badP) = false) ∧ Upd Non w wr) (fun iv _ => l.length - (intOf iv).toNat)
  case atStart => exact ⟨0, rfl, Nat.zero_le _, Lib.hid rfl, Upd.refl _ _⟩
  case round =>
    obtain ⟨k, rfl, hk, hno, hU⟩ := hrel
    by_cases hlt : k < l.length
    · have hltI : (k : Int) < (l.length : Int) := by omega
      have hk0 : (0 : Int) ≤ (k : Int) := by omega
      obtain ⟨gg, off, rfl, x0⟩ := hx.out k hlt
      replace x0 := fun j u hu => hU.cell (x0 j u hu) fun h => h
      have hr := hask.out _ (List.getElem_mem hlt)
      have hn := hany.out k hlt
      rw [hno.out, Bool.false_or] at hn
      have hh := hhit.out k hlt
      generalize l[k] = y at *
      obtain ⟨q, hq⟩ : ∃ q, (badP) y = q := ⟨_, rfl⟩
      rw [hq] at hr hn hh
      replace hr := Lib.hid hr
      replace hn := Lib.hid hn
      replace hh := Lib.hid hh
      clear hq
      have z0 : wr.cell? ⟨gg, off + k * 6, none⟩ = some (.int .i64 y.n) := x0 0 _ rfl; have z1 : wr.cell? ⟨gg, off + k * 6 + 1, none⟩ = some (.int .i64 y.head.size) := x0 1 _ rfl; have z2 : wr.cell? ⟨gg, off + k * 6 + 2, none⟩ = some (.int .i64 y.head.re) := x0 2 _ rfl; have z3 : wr.cell? ⟨gg, off + k * 6 + 3, none⟩ = some (.int .i64 y.head.im) := x0 3 _ rfl; have z4 : wr.cell? ⟨gg, off + k * 6 + 4, none⟩ = some (.bool y.head.gone) := x0 4 _ rfl; have z5 : wr.cell? ⟨gg, off + k * 6 + 5, none⟩ = some (.bool y.head.null) := x0 5 _ rfl
      clear x0
      go_wp2_with fail
      refine (hr.out _).mono ?_
      rintro en w1 ⟨rfl, hu⟩
      have hU1 := hU.trans hu fun _ _ h => h
      clear hu
      cases q with
      | true =>
        go_wp2_with fail
        go_ret
        exact ⟨_, rfl, iff_of_true hk0 (hh.out (by trivial)), hU1⟩
      | false =>
        go_wp2_with fail
        go_roundw
        case rel => exact ⟨k + 1, by go_num, by omega, hn, hU1⟩
        case measure => simp [intOf]; omega
    · have hltI : ¬ (k : Int) < (l.length : Int) := by omega
      obtain rfl : k = l.length := by omega
      rw [List.take_length] at hno
      go_wp2_with fail
      go_ret
      exact ⟨_, rfl, iff_of_false (by omega) (by rw [← hbb.out, hno.out]; simp), hU⟩
theorem wQ.any (v : Value) (l : List Pt) (w : World) (hT : Has w 6 v l.length (l.flatMap ptC)) (hl : ∀ s ∈ l, True) :
    Calls Tryz.prog 83 #[v, .func (.func 78) #[] #[]] w (Ret (.bool (l.any (badP))) w) := by
  have hi := Lib.hid (wQ.idx v l w hT hl)
  obtain ⟨a, c, rfl, -⟩ := has_rows (f := ptC) (m := 6) (fun _ => rfl) hT
  generalize l.any (badP) = b at *
  clear hT hl
  go_enter Tryz.func83, Tryz.ntmps83
  go_wp2_with fail
  refine hi.out.mono ?_
  rintro en w1 ⟨q, rfl, hq, hu⟩
  by_cases h0 : 0 ≤ q
  · obtain rfl : b = true := hq.1 h0
    go_wp2_with fail
    go_ret
    exact ⟨rfl, hu⟩
  · obtain rfl : b = false := by
      cases b with
      | false => rfl
      | true => exact absurd (hq.2 rfl) h0
    go_wp2_with fail
    go_ret
    exact ⟨rfl, hu⟩
end Go.Proofs.YtogekobpjjmnjaaGreat

namespace Go.Proofs.YtogekobpjjmnjaaGreat
open Go.RowKit Go.Amb
set_option linter.unusedVariables false
set_option linter.unusedSimpArgs false
set_option maxRecDepth 100000
attribute [local go_sem ↓] Go.wp_at_zero Go.wp_at_succ
/-- The slices of a response: names, the listing's names, its prefixes, lines, uploads, parts. -/
structure Sl where
  n : Value
  ln : Value
  lp : Value
  l : Value
  u : Value
  p : Value
/-- A response's cells. -/
def rsC (r : Rs) (S : Sl) : Array Value := #[.int .i64 r.err, .int .i64 r.id, .int .i64 r.time, .string ⟨r.text.toArray⟩, .int .i64 r.re, .int .i64 r.im, .string ⟨r.version.toArray⟩, .int .i64 r.head.size, .int .i64 r.head.re, .int .i64 r.head.im, .bool r.head.gone, .bool r.head.null, .string ⟨r.body.toArray⟩, S.n, S.ln, S.lp, .string ⟨r.next.toArray⟩, .bool r.more, S.l, .string ⟨r.lobject.toArray⟩, .int .i64 r.lid, .bool r.lmore, S.u, S.p]
def rsV (r : Rs) (S : Sl) : Value := .agg (rsC r S)
structure RsAt (w : World) (r : Rs) (S : Sl) : Prop where
  n : Txts w S.n r.names
  ln : Txts w S.ln r.lnames
  lp : Txts w S.lp r.lpre
  l : Lns w S.l r.lines
  u : Ups w S.u r.ups
  p : Pts w S.p r.parts
theorem RsAt.upd {Q : Nat → Prop} {w w' : World} {r : Rs} {S : Sl} (h : RsAt w r S) (hu : Upd Q w w') (hn : ∀ k, At S.n k ∨ At S.ln k ∨ At S.lp k ∨ At S.l k ∨ At S.u k ∨ At S.p k → ¬ Q k) : RsAt w' r S :=
  ⟨h.n.upd hu fun k hk => hn k (.inl hk), h.ln.upd hu fun k hk => hn k (.inr (.inl hk)), h.lp.upd hu fun k hk => hn k (.inr (.inr (.inl hk))), h.l.upd hu fun k hk => hn k (.inr (.inr (.inr (.inl hk)))), h.u.upd hu fun k hk => hn k (.inr (.inr (.inr (.inr (.inl hk))))), h.p.upd hu fun k hk => hn k (.inr (.inr (.inr (.inr (.inr hk)))))⟩
theorem RsAt.non {w w' : World} {r : Rs} {S : Sl} (h : RsAt w r S) (hu : Upd Non w w') : RsAt w' r S := h.upd hu fun _ _ h => h
/-- A response's texts fit into memory. -/
def smallA (r : Rs) : Prop := (∀ s ∈ [r.text, r.version, r.body, r.next, r.lobject], s.length ≤ maxLen) ∧ (∀ s ∈ r.names, s.length ≤ maxLen) ∧ (∀ s ∈ r.lnames, s.length ≤ maxLen) ∧ (∀ s ∈ r.lpre, s.length ≤ maxLen) ∧ (∀ x ∈ r.lines, x.object.length ≤ maxLen) ∧ (∀ x ∈ r.ups, x.object.length ≤ maxLen)
theorem badL_any (l : List Ln) : l.any badL = false ↔ ∀ x ∈ l, lnOk x := by simp [badL]
theorem badU_any (l : List Up) : l.any badU = false ↔ ∀ x ∈ l, upOk x := by simp [badU]
theorem badP_any (l : List Pt) : l.any badP = false ↔ ∀ x ∈ l, ptOk x := by simp [badP]
theorem five_txt (w : World) (s1 s2 s3 s4 s5 : List UInt8) : Txts (w.alloc (.cells #[.string ⟨s1.toArray⟩, .string ⟨s2.toArray⟩, .string ⟨s3.toArray⟩, .string ⟨s4.toArray⟩, .string ⟨s5.toArray⟩] 9)) (.slice (some ⟨w.heap.size, 0, none⟩) 5 5) [s1, s2, s3, s4, s5] := has_new w [.string ⟨s1.toArray⟩, .string ⟨s2.toArray⟩, .string ⟨s3.toArray⟩, .string ⟨s4.toArray⟩, .string ⟨s5.toArray⟩] 9 1 5 rfl (by unfold maxLen; omega)
set_option maxHeartbeats 8000000 in
theorem wMay (r0 : Rs) (S : Sl) (w : World) (hR : RsAt w r0 S) (hs : smallA r0) : Calls Tryz.prog 48 #[rsV r0 S] w (Ret (.bool (decide (rightA r0))) w) := by
  obtain ⟨s1, s2, s3, s4, s5, s6⟩ := hs
  have a1 := Lib.hid (fun w => wTagCheck r0.re r0.im w)
  have a2 := Lib.hid (fun w => wHeads r0.head w)
  have a3 := Lib.hid (fun v w h => wTexts v [r0.text, r0.version, r0.body, r0.next, r0.lobject] w h s1)
  have a4 := Lib.hid (fun w' (hu : Upd Non w w') => wTexts S.n r0.names w' (hR.non hu).n s2)
  have a5 := Lib.hid (fun w' (hu : Upd Non w w') => wTexts S.ln r0.lnames w' (hR.non hu).ln s3)
  have a6 := Lib.hid (fun w' (hu : Upd Non w w') => wTexts S.lp r0.lpre w' (hR.non hu).lp s4)
  have a7 := Lib.hid (fun w' (hu : Upd Non w w') => wL.any S.l r0.lines w' (hR.non hu).l s5)
  have a8 := Lib.hid (fun w' (hu : Upd Non w w') => wU.any S.u r0.ups w' (hR.non hu).u s6)
  have a9 := Lib.hid (fun w' (hu : Upd Non w w') => wQ.any S.p r0.parts w' (hR.non hu).p (fun _ _ => trivial))
  have hr : rightA r0 ↔ (0 ≤ r0.err ∧ r0.err ≤ 20) ∧ tagOk r0.re r0.im ∧ hdOk r0.head ∧ txOk [r0.text, r0.version, r0.body, r0.next, r0.lobject] ∧ txOk r0.names ∧ txOk r0.lnames ∧ txOk r0.lpre ∧ (r0.lines.length ≤ 65535 ∧ r0.lines.any badL = false) ∧ (r0.ups.length ≤ 65535 ∧ r0.ups.any badU = false) ∧ (r0.parts.length ≤ 65535 ∧ r0.parts.any badP = false) := by
    unfold rightA
    rw [badL_any, badU_any, badP_any]
  obtain ⟨r, hrr⟩ : ∃ r, decide (rightA r0) = r := ⟨_, rfl⟩
  rw [hrr]
  have hyes : Hid (_ → r = true) := Lib.hid (fun h => by rw [← hrr]; exact decide_eq_true (hr.2 h))
  have hno : Hid (¬ _ → r = false) := Lib.hid (fun h => by rw [← hrr]; exact decide_eq_false (fun e => h (hr.1 e)))
  clear hr hrr s1 s2 s3 s4 s5 s6
  generalize r0.lines.any badL = b1 at *
  generalize r0.ups.any badU = b2 at *
  generalize r0.parts.any badP = b3 at *
  obtain ⟨n1, n2, n3, n4, n5, n6⟩ := S
  obtain ⟨hR1, hR2, hR3, hR4, hR5, hR6⟩ := hR
  dsimp only at *
  obtain ⟨p1, q1, rfl, -⟩ := has1 hR1
  obtain ⟨p2, q2, rfl, -⟩ := has1 hR2
  obtain ⟨p3, q3, rfl, -⟩ := has1 hR3
  obtain ⟨p4, q4, rfl, t4, m4, -⟩ := has_rows (f := lnC) (m := 8) (fun _ => rfl) hR4
  obtain ⟨p5, q5, rfl, t5, m5, -⟩ := has_rows (f := upC) (m := 2) (fun _ => rfl) hR5
  obtain ⟨p6, q6, rfl, t6, m6, -⟩ := has_rows (f := ptC) (m := 6) (fun _ => rfl) hR6
  clear hR1 hR2 hR3 hR4 hR5 hR6
  obtain ⟨err, id, time, text, re, im, version, ⟨size, hre, him, gone, null⟩, body, names, lnames, lpre, next, more, lines, lobject, lid, lmore, ups, parts⟩ := r0
  have ho := Lib.hid (fun w => five_txt w text version body next lobject)
  unfold rsV
  have hst : BxOf (rsC ⟨err, id, time, text, re, im, version, ⟨size, hre, him, gone, null⟩, body, names, lnames, lpre, next, more, lines, lobject, lid, lmore, ups, parts⟩ ⟨.slice p1 names.length q1, .slice p2 lnames.length q2, .slice p3 lpre.length q3, .slice p4 lines.length q4, .slice p5 ups.length q5, .slice p6 parts.length q6⟩) w (w.alloc (.cells (rsC ⟨err, id, time, text, re, im, version, ⟨size, hre, him, gone, null⟩, body, names, lnames, lpre, next, more, lines, lobject, lid, lmore, ups, parts⟩ ⟨.slice p1 names.length q1, .slice p2 lnames.length q2, .slice p3 lpre.length q3, .slice p4 lines.length q4, .slice p5 ups.length q5, .slice p6 parts.length q6⟩) 39)) := BxOf.start (Upd.refl _ _)
  unfold rsC at *
  dsimp only at *
  by_cases h1 : 0 ≤ err
  case neg =>
    obtain rfl : r = false := hno.out (fun e => h1 e.1.1)
    clear hno hyes a1 a2 a3 a4 a5 a6 a7 a8 a9
    go_enter Tryz.func48, Tryz.ntmps48
    go_wp2_with fail
    go_ret
    exact ⟨rfl, hst.upd⟩
  by_cases h2 : err ≤ 20
  case neg =>
    obtain rfl : r = false := hno.out (fun e => h2 e.1.2)
    clear hno hyes a1 a2 a3 a4 a5 a6 a7 a8 a9
    go_enter Tryz.func48, Tryz.ntmps48
    go_wp2_with fail
    go_ret
    exact ⟨rfl, hst.upd⟩
  unfold tagV at a1
  unfold hdV at a2
  dsimp only at *
  go_enter Tryz.func48, Tryz.ntmps48
  go_wp2_with fail
  refine (a1.out _).mono ?_
  rintro en w1 ⟨rfl, hu⟩
  have hB1 := hst.next hu
  clear hu hst a1
  rcases ckT_or re im with ⟨hT, hc⟩ | ⟨hT, hc⟩
  case inr =>
    rw [hc]
    obtain rfl : r = false := hno.out (fun e => hT e.2.1)
    go_wp2_with fail
    go_ret
    exact ⟨rfl, hB1.upd⟩
  rw [hc]
  replace hT := Lib.hid hT
  have y7 : w1.cell? ⟨w.heap.size, 7, none⟩ = some (.int .i64 size) := hB1.1 7 _ rfl
  have y8 : w1.cell? ⟨w.heap.size, 8, none⟩ = some (.int .i64 hre) := hB1.1 8 _ rfl
  have y9 : w1.cell? ⟨w.heap.size, 9, none⟩ = some (.int .i64 him) := hB1.1 9 _ rfl
  have y10 : w1.cell? ⟨w.heap.size, 10, none⟩ = some (.bool gone) := hB1.1 10 _ rfl
  have y11 : w1.cell? ⟨w.heap.size, 11, none⟩ = some (.bool null) := hB1.1 11 _ rfl
  go_wp2_with fail
  refine (a2.out _).mono ?_
  rintro en w2 ⟨rfl, hu⟩
  have hB2 := hB1.next hu
  clear hu hB1 a2 y7 y8 y9 y10 y11
  by_cases k3 : hdOk ⟨size, hre, him, gone, null⟩
  case neg =>
    rw [decide_eq_false k3]
    obtain rfl : r = false := hno.out (fun e => k3 e.2.2.1)
    go_wp2_with fail
    go_ret
    exact ⟨rfl, hB2.upd⟩
  rw [decide_eq_true k3]
  replace k3 := Lib.hid k3
  have y3 : w2.cell? ⟨w.heap.size, 3, none⟩ = some (.string ⟨text.toArray⟩) := hB2.1 3 _ rfl
  have y6 : w2.cell? ⟨w.heap.size, 6, none⟩ = some (.string ⟨version.toArray⟩) := hB2.1 6 _ rfl
  have y12 : w2.cell? ⟨w.heap.size, 12, none⟩ = some (.string ⟨body.toArray⟩) := hB2.1 12 _ rfl
  have y16 : w2.cell? ⟨w.heap.size, 16, none⟩ = some (.string ⟨next.toArray⟩) := hB2.1 16 _ rfl
  have y19 : w2.cell? ⟨w.heap.size, 19, none⟩ = some (.string ⟨lobject.toArray⟩) := hB2.1 19 _ rfl
  go_wp2_with fail
  refine (a3.out _ _ (ho.out w2)).mono ?_
  rintro en w3 ⟨rfl, hu⟩
  have hB3 := hB2.next ((Upd.alloc Non _ _).trans hu fun _ _ h => h)
  clear hu hB2 a3 y3 y6 y12 y16 y19
  by_cases k4 : txOk [text, version, body, next, lobject]
  case neg =>
    rw [decide_eq_false k4]
    obtain rfl : r = false := hno.out (fun e => k4 e.2.2.2.1)
    go_wp2_with fail
    go_ret
    exact ⟨rfl, hB3.upd⟩
  rw [decide_eq_true k4]
  replace k4 := Lib.hid k4
  have y13 : w3.cell? ⟨w.heap.size, 13, none⟩ = some (.slice p1 names.length q1) := hB3.1 13 _ rfl
  go_wp2_with fail
  refine (a4.out _ hB3.2).mono ?_
  rintro en w4 ⟨rfl, hu⟩
  have hB4 := hB3.next hu
  clear hu hB3 a4 y13
  by_cases k5 : txOk names
  case neg =>
    rw [decide_eq_false k5]
    obtain rfl : r = false := hno.out (fun e => k5 e.2.2.2.2.1)
    go_wp2_with fail
    go_ret
    exact ⟨rfl, hB4.upd⟩
  rw [decide_eq_true k5]
  replace k5 := Lib.hid k5
  have y14 : w4.cell? ⟨w.heap.size, 14, none⟩ = some (.slice p2 lnames.length q2) := hB4.1 14 _ rfl
  go_wp2_with fail
  refine (a5.out _ hB4.2).mono ?_
  rintro en w5 ⟨rfl, hu⟩
  have hB5 := hB4.next hu
  clear hu hB4 a5 y14
  by_cases k6 : txOk lnames
  case neg =>
    rw [decide_eq_false k6]
    obtain rfl : r = false := hno.out (fun e => k6 e.2.2.2.2.2.1)
    go_wp2_with fail
    go_ret
    exact ⟨rfl, hB5.upd⟩
  rw [decide_eq_true k6]
  replace k6 := Lib.hid k6
  have y15 : w5.cell? ⟨w.heap.size, 15, none⟩ = some (.slice p3 lpre.length q3) := hB5.1 15 _ rfl
  go_wp2_with fail
  refine (a6.out _ hB5.2).mono ?_
  rintro en w6 ⟨rfl, hu⟩
  have hB6 := hB5.next hu
  clear hu hB5 a6 y15
  by_cases k7 : txOk lpre
  case neg =>
    rw [decide_eq_false k7]
    obtain rfl : r = false := hno.out (fun e => k7 e.2.2.2.2.2.2.1)
    go_wp2_with fail
    go_ret
    exact ⟨rfl, hB6.upd⟩
  rw [decide_eq_true k7]
  replace k7 := Lib.hid k7
  have y18 : w6.cell? ⟨w.heap.size, 18, none⟩ = some (.slice p4 lines.length q4) := hB6.1 18 _ rfl
  unfold maxLen at m4 m5 m6
  by_cases h3 : lines.length ≤ 65535
  case neg =>
    have h3I : ¬ (lines.length : Int) ≤ 65535 := by omega
    obtain rfl : r = false := hno.out (fun e => h3 e.2.2.2.2.2.2.2.1.1)
    go_wp2_with fail
    go_ret
    exact ⟨rfl, hB6.upd⟩
  have h3I : (lines.length : Int) ≤ 65535 := by omega
  go_wp2_with fail
  refine (a7.out _ hB6.2).mono ?_
  rintro en w7 ⟨rfl, hu⟩
  have hB7 := hB6.next hu
  clear hu hB6 a7 y18
  cases b1 with
  | true =>
    obtain rfl : r = false := hno.out (fun e => by simpa using e.2.2.2.2.2.2.2.1.2)
    go_wp2_with fail
    go_ret
    exact ⟨rfl, hB7.upd⟩
  | false =>
    have y22 : w7.cell? ⟨w.heap.size, 22, none⟩ = some (.slice p5 ups.length q5) := hB7.1 22 _ rfl
    by_cases h4 : ups.length ≤ 65535
    case neg =>
      have h4I : ¬ (ups.length : Int) ≤ 65535 := by omega
      obtain rfl : r = false := hno.out (fun e => h4 e.2.2.2.2.2.2.2.2.1.1)
      go_wp2_with fail
      go_ret
      exact ⟨rfl, hB7.upd⟩
    have h4I : (ups.length : Int) ≤ 65535 := by omega
    go_wp2_with fail
    refine (a8.out _ hB7.2).mono ?_
    rintro en w8 ⟨rfl, hu⟩
    have hB8 := hB7.next hu
    clear hu hB7 a8 y22
    cases b2 with
    | true =>
      obtain rfl : r = false := hno.out (fun e => by simpa using e.2.2.2.2.2.2.2.2.1.2)
      go_wp2_with fail
      go_ret
      exact ⟨rfl, hB8.upd⟩
    | false =>
      have y23 : w8.cell? ⟨w.heap.size, 23, none⟩ = some (.slice p6 parts.length q6) := hB8.1 23 _ rfl
      by_cases h5 : parts.length ≤ 65535
      case neg =>
        have h5I : ¬ (parts.length : Int) ≤ 65535 := by omega
        obtain rfl : r = false := hno.out (fun e => h5 e.2.2.2.2.2.2.2.2.2.1)
        go_wp2_with fail
        go_ret
        exact ⟨rfl, hB8.upd⟩
      have h5I : (parts.length : Int) ≤ 65535 := by omega
      go_wp2_with fail
      refine (a9.out _ hB8.2).mono ?_
      rintro en w9 ⟨rfl, hu⟩
      have hB9 := hB8.next hu
      clear hu hB8 a9 y23
      cases b3 with
      | true =>
        obtain rfl : r = false := hno.out (fun e => by simpa using e.2.2.2.2.2.2.2.2.2.2)
        go_wp2_with fail
        go_ret
        exact ⟨rfl, hB9.upd⟩
      | false =>
        obtain rfl : r = true := hyes.out ⟨⟨h1, h2⟩, hT.out, k3.out, k4.out, k5.out, k6.out, k7.out, ⟨h3, by trivial⟩, ⟨h4, by trivial⟩, ⟨h5, by trivial⟩⟩
        go_wp2_with fail
        go_ret
        exact ⟨rfl, hB9.upd⟩
end Go.Proofs.YtogekobpjjmnjaaGreat
