/- ring.Append: the walk. -/
import Derived.Test.YtmnoldikimcafaaMRgE
import Derived.Test.YtmnoldikimcafaaMSlM
import Derived.Test.YtmnoldikimcafaaMSlJ
import Derived.Test.YtmnoldikimcafaaMAppF
namespace Go.Proofs.Ytmnoldikimcafaa
open Go.RowKit Go.Amb Go.Shelf
set_option linter.unusedVariables false
set_option linter.unusedSimpArgs false
set_option maxRecDepth 100000
instance (e q : Int) (s : List UInt8) : Decidable (cutOk e q s) := by unfold cutOk; infer_instance
/-- The slots that are written, where; the disk, and the ring, then; what Append answers. -/
def wrP (r : Rn) (l : List S5) : List (List UInt8 × Nat) := l.map fun x => (slotB x, (r.place x.q).toNat)
def appD (d : Dk) (r : Rn) (l : List S5) : Dk := { d with P := d.P ++ wrP r l }
def appR (r : Rn) (s : List UInt8) : Rn := { r with nx := r.nx + pieceN s, L := r.L ++ [⟨r.nx, r.nx + pieceN s, s⟩] }
def appE (r : Rn) (s : List UInt8) : Int := if cutOk r.ep r.nx s then (if (r.cn : Int) - (r.nx - r.st) < pieceN s then 11 else 0) else if 16384 < s.length then 5 else 2
theorem appD_snoc (d : Dk) (r : Rn) (l : List S5) (x : S5) : appD d r (l ++ [x]) = { appD d r l with P := (appD d r l).P ++ [(slotB x, (r.place x.q).toNat)] } := by
  unfold appD wrP; simp
theorem place_in {r : Rn} (h : 0 < r.cn) {q : Int} (hq : 0 ≤ q) : 0 ≤ r.place q ∧ r.place q < (r.fr : Int) + r.cn ∧ (r.fr : Int) ≤ r.place q := by
  unfold Rn.place
  have h1 := Int.emod_nonneg q (show (r.cn : Int) ≠ 0 by omega)
  have h2 := Int.emod_lt_of_pos q (show (0 : Int) < r.cn by omega)
  omega
theorem write_ok {d : Dk} (h1 : d.dd = false) (h2 : d.f = -1) {i : Int} (h3 : 0 ≤ i) (h4 : i < d.K.length) {s : List UInt8} (h5 : s.length = 128) : d.write i s = ({ d with P := d.P ++ [(s, i.toNat)] }, 0) := by
  have hw : d.within i = 0 := by unfold Dk.within; rw [h1, if_neg (by simp), if_neg (by omega)]
  have hb : d.burn = (d, 0) := by unfold Dk.burn; rw [h2, if_neg (by decide), if_neg (by decide)]
  unfold Dk.write
  rw [if_neg (by simp [hw]), if_neg (by omega), hb, if_neg (by simp)]
  unfold full
  rw [h5]; simp
theorem slotB_len {x : S5} (h : rightS x = true) : (slotB x).length = 128 := (readS_slotB x h).2
theorem cutS_get (e q : Int) (s : List UInt8) (i : Nat) (h : i < pieceN s) : (cutS e q s)[i]? = some (slotI e q s i) := by
  unfold cutS slotI; rw [List.getElem?_map, List.getElem?_range h]; rfl
/-- A ring and its disk, the call's own: from call to call. -/
structure Rg (w0 w : World) (R D : Nat) (F G : Nat → Prop) (d : Dk) (r : Rn) : Prop where
  disk : DiskAt w D F d
  ring : RingAt w R D G r
  apart : ∀ k, F k → ¬ G k
/-- What a step leaves. -/
def RgTo (w : World) (R D : Nat) (F G : Nat → Prop) (d' : Dk) (r' : Rn) (v : Value) : Ending → World → Prop := fun en w' =>
  en = .returned v ∧ ∃ F' G', DiskAt w' D F' d' ∧ RingAt w' R D G' r' ∧ (∀ k, F' k → ¬ G' k) ∧ Kp w (fun k => F k ∨ G k) w' (fun k => F' k ∨ G' k)
theorem RgTo.same {w w' : World} {R D : Nat} {F G : Nat → Prop} {d : Dk} {r : Rn} {v : Value} (hD : DiskAt w D F d) (hR : RingAt w R D G r) (hA : ∀ k, F k → ¬ G k) (hu : Upd Non w w') : RgTo w R D F G d r v (.returned v) w' :=
  ⟨rfl, F, G, hD.non hu, hR.non hu, hA, Kp.non hu⟩
section
variable {w : World} {R D : Nat} {F G : Nat → Prop} {d : Dk} {r : Rn}
set_option maxHeartbeats 1000000 in
theorem lAppendNo (hR : RingAt w R D G r) (hD : DiskAt w D F d) (hA : ∀ k, F k → ¬ G k) (s : List UInt8) (hno : ¬ cutOk r.ep r.nx s) :
    Calls Try.prog 9 #[.pointer (some ⟨R, 0, none⟩), .string ⟨s.toArray⟩] w (RgTo w R D F G d r (.int .i64 (appE r s))) := by
  have hO := Lib.hid (fun w' (hu : Upd Non w w') => lOpened (hR.non hu))
  have hRm := Lib.hid (fun w' (hu : Upd Non w w') => lRoom (hR.non hu))
  have hC := Lib.hid (fun w => lCut s r.ep r.nx w)
  obtain ⟨va, vc, x0, x1, x2, x3, x4, x5, x6⟩ := hR.cell
  have hRh := Lib.hid hR
  have hDh := Lib.hid hD
  have ok := hR.ok
  have hAh := Lib.hid hA
  clear hA
  have hE : appE r s = if 16384 < s.length then 5 else 2 := by unfold appE; rw [if_neg hno]
  have hC' : Hid (∀ w, Calls Try.prog 26 #[.string ⟨s.toArray⟩, .int .i64 r.ep, .int .i64 r.nx] w (Ret (.tuple #[.slice none 0 0, .int .i64 (appE r s)]) w)) := Lib.hid fun w => (hC.out w).mono fun en w' h => by
    rcases h with ⟨h, -⟩ | ⟨-, h1, h2⟩
    · exact absurd h hno
    · rw [hE]; exact ⟨h1, h2⟩
  have hne : (appE r s != 0) = true := by rw [hE]; split <;> rfl
  have hfin : Hid (∀ w', Upd Non w w' → RgTo w R D F G d r (.int .i64 (appE r s)) (.returned (.int .i64 (appE r s))) w') := Lib.hid (fun w' hu => RgTo.same hDh.out hRh.out hAh.out hu)
  obtain ⟨PR, hPR⟩ : ∃ PR, RgTo w R D F G d r (.int .i64 (appE r s)) = PR := ⟨_, rfl⟩
  rw [hPR] at hfin ⊢
  generalize appE r s = x at *
  replace hC := hC'
  obtain ⟨fr, cn, st, nx, ep, L⟩ := r
  simp only at *
  clear hC' hE hPR hR hD hno
  go_enter Try.func9, Try.ntmps9
  go_wp2_with fail
  refine (hO.out _ (Upd.refl _ _)).mono ?_
  rintro en w1 ⟨rfl, hu1⟩
  have y0 := hu1.cell x0 fun h => h
  have y4 := hu1.cell x4 fun h => h
  have y5 := hu1.cell x5 fun h => h
  clear hO
  go_wp2_with fail
  refine wp_region_held_drew (S := (fun w' => w'.cell? ⟨R, 4, none⟩ = some (.int .i64 nx) ∧ w'.cell? ⟨R, 5, none⟩ = some (.int .i64 ep))) (by kernel_rfl) (by (try dsimp only); first | exact ⟨u4, u5⟩ | exact ⟨(Upd.drew Non w1).cell y4 fun h => h, (Upd.drew Non w1).cell y5 fun h => h⟩) (fun hHeld => ?_)
  (refine wpAnyH_take (i := 0) (oi := ?oi_1_0) (v := ?v_1_0) ?ho_1_0 ?hs_1_0 ?hf_1_0 ?hr_1_0 ?hQ_1_0 ?hy_1_0 ?hS_1_0 ?rest_1_0; (case hr_1_0 => kernel_rfl); (case hf_1_0 => kernel_rfl); (case hs_1_0 => kernel_rfl); (case ho_1_0 => (simp only [List.getElem?_toArray, List.getElem?_cons_succ, List.getElem?_cons_zero]; rfl)); (case hS_1_0 => assumption); (case hQ_1_0 => exact fun _ _ _ h => h); (case hy_1_0 => (refine Or.inl ⟨by rfl, ?_⟩; (intro w hSw; (try dsimp only at hSw); go_simp) <;> with_reducible rfl)); (try simp only [Act.put, List.setIfInBounds_toArray, List.set_cons_zero, List.set_cons_succ]))
  (refine wpAnyH_take (i := 1) (oi := ?oi_1_1) (v := ?v_1_1) ?ho_1_1 ?hs_1_1 ?hf_1_1 ?hr_1_1 ?hQ_1_1 ?hy_1_1 ?hS_1_1 ?rest_1_1; (case hr_1_1 => kernel_rfl); (case hf_1_1 => kernel_rfl); (case hs_1_1 => kernel_rfl); (case ho_1_1 => (simp only [List.getElem?_toArray, List.getElem?_cons_succ, List.getElem?_cons_zero]; rfl)); (case hS_1_1 => assumption); (case hQ_1_1 => exact fun _ _ _ h => h); (case hy_1_1 => (refine Or.inl ⟨by rfl, ?_⟩; (intro w hSw; (try dsimp only at hSw); go_simp) <;> with_reducible rfl)); (try simp only [Act.put, List.setIfInBounds_toArray, List.set_cons_zero, List.set_cons_succ]))
  (refine wpAnyH_take (i := 2) (oi := ?oi_1_2) (v := ?v_1_2) ?ho_1_2 ?hs_1_2 ?hf_1_2 ?hr_1_2 ?hQ_1_2 ?hy_1_2 ?hS_1_2 ?rest_1_2; (case hr_1_2 => kernel_rfl); (case hf_1_2 => kernel_rfl); (case hs_1_2 => kernel_rfl); (case ho_1_2 => (simp only [List.getElem?_toArray, List.getElem?_cons_succ, List.getElem?_cons_zero]; rfl)); (case hS_1_2 => assumption); (case hQ_1_2 => exact fun _ _ _ h => h); (case hy_1_2 => (refine Or.inl ⟨by rfl, ?_⟩; (intro w hSw; (try dsimp only at hSw); go_simp) <;> with_reducible rfl)); (try simp only [Act.put, List.setIfInBounds_toArray, List.set_cons_zero, List.set_cons_succ]))
  (refine wpAnyH_take (i := 3) (oi := ?oi_1_3) (v := ?v_1_3) ?ho_1_3 ?hs_1_3 ?hf_1_3 ?hr_1_3 ?hQ_1_3 ?hy_1_3 ?hS_1_3 ?rest_1_3; (case hr_1_3 => kernel_rfl); (case hf_1_3 => kernel_rfl); (case hs_1_3 => kernel_rfl); (case ho_1_3 => (simp only [List.getElem?_toArray, List.getElem?_cons_succ, List.getElem?_cons_zero]; rfl)); (case hS_1_3 => assumption); (case hQ_1_3 => exact fun _ _ _ h => h); (case hy_1_3 => (refine Or.inl ⟨by rfl, ?_⟩; (intro w hSw; (try dsimp only at hSw); go_simp) <;> with_reducible rfl)); (try simp only [Act.put, List.setIfInBounds_toArray, List.set_cons_zero, List.set_cons_succ]))
  (refine wpAnyH_take (i := 4) (oi := ?oi_1_4) (v := ?v_1_4) ?ho_1_4 ?hs_1_4 ?hf_1_4 ?hr_1_4 ?hQ_1_4 ?hy_1_4 ?hS_1_4 ?rest_1_4; (case hr_1_4 => kernel_rfl); (case hf_1_4 => kernel_rfl); (case hs_1_4 => kernel_rfl); (case ho_1_4 => (simp only [List.getElem?_toArray, List.getElem?_cons_succ, List.getElem?_cons_zero]; rfl)); (case hS_1_4 => assumption); (case hQ_1_4 => exact fun _ _ _ h => h); (case hy_1_4 => (refine Or.inl ⟨by rfl, ?_⟩; (intro w hSw; (try dsimp only at hSw); go_simp) <;> with_reducible rfl)); (try simp only [Act.put, List.setIfInBounds_toArray, List.set_cons_zero, List.set_cons_succ]))
  (refine wpAnyH_take (i := 5) (oi := ?oi_1_5) (v := ?v_1_5) ?ho_1_5 ?hs_1_5 ?hf_1_5 ?hr_1_5 ?hQ_1_5 ?hy_1_5 ?hS_1_5 ?rest_1_5; (case hr_1_5 => kernel_rfl); (case hf_1_5 => kernel_rfl); (case hs_1_5 => kernel_rfl); (case ho_1_5 => (simp only [List.getElem?_toArray, List.getElem?_cons_succ, List.getElem?_cons_zero]; rfl)); (case hS_1_5 => assumption); (case hQ_1_5 => exact fun _ _ _ h => h); (case hy_1_5 => (refine Or.inl ⟨by rfl, ?_⟩; (intro w hSw; (try dsimp only at hSw); go_simp) <;> with_reducible rfl)); (try simp only [Act.put, List.setIfInBounds_toArray, List.set_cons_zero, List.set_cons_succ]))
  (refine wpAnyH_take (i := 6) (oi := ?oi_1_6) (v := ?v_1_6) ?ho_1_6 ?hs_1_6 ?hf_1_6 ?hr_1_6 ?hQ_1_6 ?hy_1_6 ?hS_1_6 ?rest_1_6; (case hr_1_6 => kernel_rfl); (case hf_1_6 => kernel_rfl); (case hs_1_6 => kernel_rfl); (case ho_1_6 => (simp only [List.getElem?_toArray, List.getElem?_cons_succ, List.getElem?_cons_zero]; rfl)); (case hS_1_6 => assumption); (case hQ_1_6 => exact fun _ _ _ h => h); (case hy_1_6 => (refine Or.inl ⟨by rfl, ?_⟩; (intro w hSw; (try dsimp only at hSw); go_simp) <;> with_reducible rfl)); (try simp only [Act.put, List.setIfInBounds_toArray, List.set_cons_zero, List.set_cons_succ]))
  (refine wpAnyH_take (i := 7) (oi := ?oi_1_7) (v := ?v_1_7) ?ho_1_7 ?hs_1_7 ?hf_1_7 ?hr_1_7 ?hQ_1_7 ?hy_1_7 ?hS_1_7 ?rest_1_7; (case hr_1_7 => kernel_rfl); (case hf_1_7 => kernel_rfl); (case hs_1_7 => kernel_rfl); (case ho_1_7 => (simp only [List.getElem?_toArray, List.getElem?_cons_succ, List.getElem?_cons_zero]; rfl)); (case hS_1_7 => assumption); (case hQ_1_7 => exact fun _ _ _ h => h); (case hy_1_7 => (refine Or.inl ⟨by rfl, ?_⟩; (intro w hSw; (try dsimp only at hSw); go_simp) <;> with_reducible rfl)); (try simp only [Act.put, List.setIfInBounds_toArray, List.set_cons_zero, List.set_cons_succ]))
  (refine wpAnyH_take (i := 8) (oi := ?oi_1_8) (v := ?v_1_8) ?ho_1_8 ?hs_1_8 ?hf_1_8 ?hr_1_8 ?hQ_1_8 ?hy_1_8 ?hS_1_8 ?rest_1_8; (case hr_1_8 => kernel_rfl); (case hf_1_8 => kernel_rfl); (case hs_1_8 => kernel_rfl); (case ho_1_8 => (simp only [List.getElem?_toArray, List.getElem?_cons_succ, List.getElem?_cons_zero]; rfl)); (case hS_1_8 => assumption); (case hQ_1_8 => exact fun _ _ _ h => h); (case hy_1_8 => (refine Or.inl ⟨by rfl, ?_⟩; (intro w hSw; (try dsimp only at hSw); go_simp) <;> with_reducible rfl)); (try simp only [Act.put, List.setIfInBounds_toArray, List.set_cons_zero, List.set_cons_succ]))
  (refine wpAnyH_ready (rs := [9]) (by kernel_rfl) (by simp) ?_; refine AllReadyH.cons (o := ?oo_1_9) ?hoo_1_9 ?hst_1_9 AllReadyH.nil; (case hoo_1_9 => (simp only [List.getElem?_toArray, List.getElem?_cons_succ, List.getElem?_cons_zero]; rfl)); intro K hK; go_simp; ((refine (hC.out _).mono ?_; rintro en w2 ⟨rfl, hu2⟩; have hU2 := (hu1.trans (Upd.drew Non w1) fun _ _ h => h).trans hu2 fun _ _ h => h; have u4 := hU2.cell x4 fun h => h; have u5 := hU2.cell x5 fun h => h)); (try go_wp2_with fail); refine hK.out _ _ (by (try dsimp only); first | exact ⟨u4, u5⟩ | exact ⟨(Upd.drew Non w1).cell y4 fun h => h, (Upd.drew Non w1).cell y5 fun h => h⟩) (fun hHeld => ?_); clear hK K; (try simp only [Act.put, List.setIfInBounds_toArray, List.set_cons_zero, List.set_cons_succ]))
  (refine wpAnyH_take (i := 10) (oi := ?oi_1_10) (v := ?v_1_10) ?ho_1_10 ?hs_1_10 ?hf_1_10 ?hr_1_10 ?hQ_1_10 ?hy_1_10 ?hS_1_10 ?rest_1_10; (case hr_1_10 => kernel_rfl); (case hf_1_10 => kernel_rfl); (case hs_1_10 => kernel_rfl); (case ho_1_10 => (simp only [List.getElem?_toArray, List.getElem?_cons_succ, List.getElem?_cons_zero]; rfl)); (case hS_1_10 => assumption); (case hQ_1_10 => exact fun _ _ _ h => h); (case hy_1_10 => (refine Or.inl ⟨by rfl, ?_⟩; (intro w hSw; (try dsimp only at hSw); go_simp) <;> with_reducible rfl)); (try simp only [Act.put, List.setIfInBounds_toArray, List.set_cons_zero, List.set_cons_succ]))
  (refine wpAnyH_take (i := 11) (oi := ?oi_1_11) (v := ?v_1_11) ?ho_1_11 ?hs_1_11 ?hf_1_11 ?hr_1_11 ?hQ_1_11 ?hy_1_11 ?hS_1_11 ?rest_1_11; (case hr_1_11 => kernel_rfl); (case hf_1_11 => kernel_rfl); (case hs_1_11 => kernel_rfl); (case ho_1_11 => (simp only [List.getElem?_toArray, List.getElem?_cons_succ, List.getElem?_cons_zero]; rfl)); (case hS_1_11 => assumption); (case hQ_1_11 => exact fun _ _ _ h => h); (case hy_1_11 => (refine Or.inl ⟨by rfl, ?_⟩; (intro w hSw; (try dsimp only at hSw); go_simp) <;> with_reducible rfl)); (try simp only [Act.put, List.setIfInBounds_toArray, List.set_cons_zero, List.set_cons_succ]))
  (refine wpAnyH_take (i := 12) (oi := ?oi_1_12) (v := ?v_1_12) ?ho_1_12 ?hs_1_12 ?hf_1_12 ?hr_1_12 ?hQ_1_12 ?hy_1_12 ?hS_1_12 ?rest_1_12; (case hr_1_12 => kernel_rfl); (case hf_1_12 => kernel_rfl); (case hs_1_12 => kernel_rfl); (case ho_1_12 => (simp only [List.getElem?_toArray, List.getElem?_cons_succ, List.getElem?_cons_zero]; rfl)); (case hS_1_12 => assumption); (case hQ_1_12 => exact fun _ _ _ h => h); (case hy_1_12 => (refine Or.inl ⟨by rfl, ?_⟩; (intro w hSw; (try dsimp only at hSw); go_simp) <;> with_reducible rfl)); (try simp only [Act.put, List.setIfInBounds_toArray, List.set_cons_zero, List.set_cons_succ]))
  (refine wpAnyH_take (i := 13) (oi := ?oi_1_13) (v := ?v_1_13) ?ho_1_13 ?hs_1_13 ?hf_1_13 ?hr_1_13 ?hQ_1_13 ?hy_1_13 ?hS_1_13 ?rest_1_13; (case hr_1_13 => kernel_rfl); (case hf_1_13 => kernel_rfl); (case hs_1_13 => kernel_rfl); (case ho_1_13 => (simp only [List.getElem?_toArray, List.getElem?_cons_succ, List.getElem?_cons_zero]; rfl)); (case hS_1_13 => assumption); (case hQ_1_13 => exact fun _ _ _ h => h); (case hy_1_13 => (refine Or.inl ⟨by rfl, ?_⟩; (intro w hSw; (try dsimp only at hSw); go_simp) <;> with_reducible rfl)); (try simp only [Act.put, List.setIfInBounds_toArray, List.set_cons_zero, List.set_cons_succ]))
  (refine wpAnyH_take (i := 14) (oi := ?oi_1_14) (v := ?v_1_14) ?ho_1_14 ?hs_1_14 ?hf_1_14 ?hr_1_14 ?hQ_1_14 ?hy_1_14 ?hS_1_14 ?rest_1_14; (case hr_1_14 => kernel_rfl); (case hf_1_14 => kernel_rfl); (case hs_1_14 => kernel_rfl); (case ho_1_14 => (simp only [List.getElem?_toArray, List.getElem?_cons_succ, List.getElem?_cons_zero]; rfl)); (case hS_1_14 => assumption); (case hQ_1_14 => exact fun _ _ _ h => h); (case hy_1_14 => (refine Or.inl ⟨by rfl, ?_⟩; (intro w hSw; (try dsimp only at hSw); go_simp) <;> with_reducible rfl)); (try simp only [Act.put, List.setIfInBounds_toArray, List.set_cons_zero, List.set_cons_succ]))
  refine wpAnyH_done (by kernel_rfl) ?_ _
  all_goals
    go_wp2_with fail
    exact hfin.out _ hU2
set_option maxHeartbeats 1000000 in
theorem lAppendFull (hR : RingAt w R D G r) (hD : DiskAt w D F d) (hA : ∀ k, F k → ¬ G k) (s : List UInt8) (hcut : cutOk r.ep r.nx s) (hroom : (r.cn : Int) - (r.nx - r.st) < pieceN s) :
    Calls Try.prog 9 #[.pointer (some ⟨R, 0, none⟩), .string ⟨s.toArray⟩] w (RgTo w R D F G d r (.int .i64 11)) := by
  have hO := Lib.hid (fun w' (hu : Upd Non w w') => lOpened (hR.non hu))
  have hRm := Lib.hid (fun w' (hu : Upd Non w w') => lRoom (hR.non hu))
  have hC := Lib.hid (fun w => lCut s r.ep r.nx w)
  obtain ⟨va, vc, x0, x1, x2, x3, x4, x5, x6⟩ := hR.cell
  have hRh := Lib.hid hR
  have hDh := Lib.hid hD
  have ok := hR.ok
  have hAh := Lib.hid hA
  clear hA
  have hN152 : pieceN s ≤ 152 := by have := hcut.1; unfold pieceN; omega
  have hXl := cutS_length r.ep r.nx s
  have hXget : Hid (∀ i, i < pieceN s → (cutS r.ep r.nx s)[i]? = some (slotI r.ep r.nx s i) ∧ rightS (slotI r.ep r.nx s i) = true) := Lib.hid (fun i hi => ⟨cutS_get _ _ _ _ hi, slotI_right hcut hi⟩)
  have hC' : Hid (∀ w, Calls Try.prog 26 #[.string ⟨s.toArray⟩, .int .i64 r.ep, .int .i64 r.nx] w (fun en w' => ∃ v, en = .returned (.tuple #[v, .int .i64 0]) ∧ (w'.ownsRow w.heap.size 56 5 v (pieceN s) (sc (cutS r.ep r.nx s)) ∧ True) ∧ Upd Non w w')) := Lib.hid fun w => (hC.out w).mono fun en w' h => by
    rcases h with ⟨-, v, h1, h2, h3⟩ | ⟨h, -⟩
    · refine ⟨v, h1, ⟨?_, trivial⟩, h3⟩
      unfold OwnS at h2
      rw [hXl] at h2; exact h2
    · exact absurd hcut h
  replace hC := hC'
  clear hC'
  have hfin : Hid (∀ w', Upd Non w w' → RgTo w R D F G d r (.int .i64 11) (.returned (.int .i64 11)) w') := Lib.hid (fun w' hu => RgTo.same hDh.out hRh.out hAh.out hu)
  obtain ⟨PR, hPR⟩ : ∃ PR, RgTo w R D F G d r (.int .i64 11) = PR := ⟨_, rfl⟩
  rw [hPR] at hfin ⊢
  obtain ⟨fr, cn, st, nx, ep, L⟩ := r
  simp only at *
  generalize cutS ep nx s = X at *
  generalize pieceN s = N at *
  clear hPR hR hD hcut
  go_enter Try.func9, Try.ntmps9
  go_wp2_with fail
  refine (hO.out _ (Upd.refl _ _)).mono ?_
  rintro en w1 ⟨rfl, hu1⟩
  have y0 := hu1.cell x0 fun h => h
  have y4 := hu1.cell x4 fun h => h
  have y5 := hu1.cell x5 fun h => h
  clear hO
  go_wp2_with fail
  refine wp_region_held_drew (S := (fun w' => w'.cell? ⟨R, 4, none⟩ = some (.int .i64 nx) ∧ w'.cell? ⟨R, 5, none⟩ = some (.int .i64 ep))) (by kernel_rfl) (by (try dsimp only); first | exact ⟨u4, u5⟩ | exact ⟨(Upd.drew Non w1).cell y4 fun h => h, (Upd.drew Non w1).cell y5 fun h => h⟩) (fun hHeld => ?_)
  (refine wpAnyH_take (i := 0) (oi := ?oi_2_0) (v := ?v_2_0) ?ho_2_0 ?hs_2_0 ?hf_2_0 ?hr_2_0 ?hQ_2_0 ?hy_2_0 ?hS_2_0 ?rest_2_0; (case hr_2_0 => kernel_rfl); (case hf_2_0 => kernel_rfl); (case hs_2_0 => kernel_rfl); (case ho_2_0 => (simp only [List.getElem?_toArray, List.getElem?_cons_succ, List.getElem?_cons_zero]; rfl)); (case hS_2_0 => assumption); (case hQ_2_0 => exact fun _ _ _ h => h); (case hy_2_0 => (refine Or.inl ⟨by rfl, ?_⟩; (intro w hSw; (try dsimp only at hSw); go_simp) <;> with_reducible rfl)); (try simp only [Act.put, List.setIfInBounds_toArray, List.set_cons_zero, List.set_cons_succ]))
  (refine wpAnyH_take (i := 1) (oi := ?oi_2_1) (v := ?v_2_1) ?ho_2_1 ?hs_2_1 ?hf_2_1 ?hr_2_1 ?hQ_2_1 ?hy_2_1 ?hS_2_1 ?rest_2_1; (case hr_2_1 => kernel_rfl); (case hf_2_1 => kernel_rfl); (case hs_2_1 => kernel_rfl); (case ho_2_1 => (simp only [List.getElem?_toArray, List.getElem?_cons_succ, List.getElem?_cons_zero]; rfl)); (case hS_2_1 => assumption); (case hQ_2_1 => exact fun _ _ _ h => h); (case hy_2_1 => (refine Or.inl ⟨by rfl, ?_⟩; (intro w hSw; (try dsimp only at hSw); go_simp) <;> with_reducible rfl)); (try simp only [Act.put, List.setIfInBounds_toArray, List.set_cons_zero, List.set_cons_succ]))
  (refine wpAnyH_take (i := 2) (oi := ?oi_2_2) (v := ?v_2_2) ?ho_2_2 ?hs_2_2 ?hf_2_2 ?hr_2_2 ?hQ_2_2 ?hy_2_2 ?hS_2_2 ?rest_2_2; (case hr_2_2 => kernel_rfl); (case hf_2_2 => kernel_rfl); (case hs_2_2 => kernel_rfl); (case ho_2_2 => (simp only [List.getElem?_toArray, List.getElem?_cons_succ, List.getElem?_cons_zero]; rfl)); (case hS_2_2 => assumption); (case hQ_2_2 => exact fun _ _ _ h => h); (case hy_2_2 => (refine Or.inl ⟨by rfl, ?_⟩; (intro w hSw; (try dsimp only at hSw); go_simp) <;> with_reducible rfl)); (try simp only [Act.put, List.setIfInBounds_toArray, List.set_cons_zero, List.set_cons_succ]))
  (refine wpAnyH_take (i := 3) (oi := ?oi_2_3) (v := ?v_2_3) ?ho_2_3 ?hs_2_3 ?hf_2_3 ?hr_2_3 ?hQ_2_3 ?hy_2_3 ?hS_2_3 ?rest_2_3; (case hr_2_3 => kernel_rfl); (case hf_2_3 => kernel_rfl); (case hs_2_3 => kernel_rfl); (case ho_2_3 => (simp only [List.getElem?_toArray, List.getElem?_cons_succ, List.getElem?_cons_zero]; rfl)); (case hS_2_3 => assumption); (case hQ_2_3 => exact fun _ _ _ h => h); (case hy_2_3 => (refine Or.inl ⟨by rfl, ?_⟩; (intro w hSw; (try dsimp only at hSw); go_simp) <;> with_reducible rfl)); (try simp only [Act.put, List.setIfInBounds_toArray, List.set_cons_zero, List.set_cons_succ]))
  (refine wpAnyH_take (i := 4) (oi := ?oi_2_4) (v := ?v_2_4) ?ho_2_4 ?hs_2_4 ?hf_2_4 ?hr_2_4 ?hQ_2_4 ?hy_2_4 ?hS_2_4 ?rest_2_4; (case hr_2_4 => kernel_rfl); (case hf_2_4 => kernel_rfl); (case hs_2_4 => kernel_rfl); (case ho_2_4 => (simp only [List.getElem?_toArray, List.getElem?_cons_succ, List.getElem?_cons_zero]; rfl)); (case hS_2_4 => assumption); (case hQ_2_4 => exact fun _ _ _ h => h); (case hy_2_4 => (refine Or.inl ⟨by rfl, ?_⟩; (intro w hSw; (try dsimp only at hSw); go_simp) <;> with_reducible rfl)); (try simp only [Act.put, List.setIfInBounds_toArray, List.set_cons_zero, List.set_cons_succ]))
  (refine wpAnyH_take (i := 5) (oi := ?oi_2_5) (v := ?v_2_5) ?ho_2_5 ?hs_2_5 ?hf_2_5 ?hr_2_5 ?hQ_2_5 ?hy_2_5 ?hS_2_5 ?rest_2_5; (case hr_2_5 => kernel_rfl); (case hf_2_5 => kernel_rfl); (case hs_2_5 => kernel_rfl); (case ho_2_5 => (simp only [List.getElem?_toArray, List.getElem?_cons_succ, List.getElem?_cons_zero]; rfl)); (case hS_2_5 => assumption); (case hQ_2_5 => exact fun _ _ _ h => h); (case hy_2_5 => (refine Or.inl ⟨by rfl, ?_⟩; (intro w hSw; (try dsimp only at hSw); go_simp) <;> with_reducible rfl)); (try simp only [Act.put, List.setIfInBounds_toArray, List.set_cons_zero, List.set_cons_succ]))
  (refine wpAnyH_take (i := 6) (oi := ?oi_2_6) (v := ?v_2_6) ?ho_2_6 ?hs_2_6 ?hf_2_6 ?hr_2_6 ?hQ_2_6 ?hy_2_6 ?hS_2_6 ?rest_2_6; (case hr_2_6 => kernel_rfl); (case hf_2_6 => kernel_rfl); (case hs_2_6 => kernel_rfl); (case ho_2_6 => (simp only [List.getElem?_toArray, List.getElem?_cons_succ, List.getElem?_cons_zero]; rfl)); (case hS_2_6 => assumption); (case hQ_2_6 => exact fun _ _ _ h => h); (case hy_2_6 => (refine Or.inl ⟨by rfl, ?_⟩; (intro w hSw; (try dsimp only at hSw); go_simp) <;> with_reducible rfl)); (try simp only [Act.put, List.setIfInBounds_toArray, List.set_cons_zero, List.set_cons_succ]))
  (refine wpAnyH_take (i := 7) (oi := ?oi_2_7) (v := ?v_2_7) ?ho_2_7 ?hs_2_7 ?hf_2_7 ?hr_2_7 ?hQ_2_7 ?hy_2_7 ?hS_2_7 ?rest_2_7; (case hr_2_7 => kernel_rfl); (case hf_2_7 => kernel_rfl); (case hs_2_7 => kernel_rfl); (case ho_2_7 => (simp only [List.getElem?_toArray, List.getElem?_cons_succ, List.getElem?_cons_zero]; rfl)); (case hS_2_7 => assumption); (case hQ_2_7 => exact fun _ _ _ h => h); (case hy_2_7 => (refine Or.inl ⟨by rfl, ?_⟩; (intro w hSw; (try dsimp only at hSw); go_simp) <;> with_reducible rfl)); (try simp only [Act.put, List.setIfInBounds_toArray, List.set_cons_zero, List.set_cons_succ]))
  (refine wpAnyH_take (i := 8) (oi := ?oi_2_8) (v := ?v_2_8) ?ho_2_8 ?hs_2_8 ?hf_2_8 ?hr_2_8 ?hQ_2_8 ?hy_2_8 ?hS_2_8 ?rest_2_8; (case hr_2_8 => kernel_rfl); (case hf_2_8 => kernel_rfl); (case hs_2_8 => kernel_rfl); (case ho_2_8 => (simp only [List.getElem?_toArray, List.getElem?_cons_succ, List.getElem?_cons_zero]; rfl)); (case hS_2_8 => assumption); (case hQ_2_8 => exact fun _ _ _ h => h); (case hy_2_8 => (refine Or.inl ⟨by rfl, ?_⟩; (intro w hSw; (try dsimp only at hSw); go_simp) <;> with_reducible rfl)); (try simp only [Act.put, List.setIfInBounds_toArray, List.set_cons_zero, List.set_cons_succ]))
  (refine wpAnyH_ready (rs := [9]) (by kernel_rfl) (by simp) ?_; refine AllReadyH.cons (o := ?oo_2_9) ?hoo_2_9 ?hst_2_9 AllReadyH.nil; (case hoo_2_9 => (simp only [List.getElem?_toArray, List.getElem?_cons_succ, List.getElem?_cons_zero]; rfl)); intro K hK; go_simp; ((refine (hC.out _).mono ?_; rintro en w2 ⟨vs, rfl, hX2, hu2⟩; have hU2 := (hu1.trans (Upd.drew Non w1) fun _ _ h => h).trans hu2 fun _ _ h => h; have u4 := hU2.cell x4 fun h => h; have u5 := hU2.cell x5 fun h => h; have hX2' := (hX2.1 : w2.ownsRow w1.drew.heap.size 56 5 vs N (sc X)); obtain ⟨_, sa, sc', rfl, -⟩ := has_of_owns hX2')); (try go_wp2_with fail); refine hK.out _ _ (by (try dsimp only); first | exact ⟨u4, u5⟩ | exact ⟨(Upd.drew Non w1).cell y4 fun h => h, (Upd.drew Non w1).cell y5 fun h => h⟩) (fun hHeld => ?_); clear hK K; (try simp only [Act.put, List.setIfInBounds_toArray, List.set_cons_zero, List.set_cons_succ]))
  (refine wpAnyH_take (i := 10) (oi := ?oi_2_10) (v := ?v_2_10) ?ho_2_10 ?hs_2_10 ?hf_2_10 ?hr_2_10 ?hQ_2_10 ?hy_2_10 ?hS_2_10 ?rest_2_10; (case hr_2_10 => kernel_rfl); (case hf_2_10 => kernel_rfl); (case hs_2_10 => kernel_rfl); (case ho_2_10 => (simp only [List.getElem?_toArray, List.getElem?_cons_succ, List.getElem?_cons_zero]; rfl)); (case hS_2_10 => assumption); (case hQ_2_10 => exact fun _ _ _ h => h); (case hy_2_10 => (refine Or.inl ⟨by rfl, ?_⟩; (intro w hSw; (try dsimp only at hSw); go_simp) <;> with_reducible rfl)); (try simp only [Act.put, List.setIfInBounds_toArray, List.set_cons_zero, List.set_cons_succ]))
  (refine wpAnyH_take (i := 11) (oi := ?oi_2_11) (v := ?v_2_11) ?ho_2_11 ?hs_2_11 ?hf_2_11 ?hr_2_11 ?hQ_2_11 ?hy_2_11 ?hS_2_11 ?rest_2_11; (case hr_2_11 => kernel_rfl); (case hf_2_11 => kernel_rfl); (case hs_2_11 => kernel_rfl); (case ho_2_11 => (simp only [List.getElem?_toArray, List.getElem?_cons_succ, List.getElem?_cons_zero]; rfl)); (case hS_2_11 => assumption); (case hQ_2_11 => exact fun _ _ _ h => h); (case hy_2_11 => (refine Or.inl ⟨by rfl, ?_⟩; (intro w hSw; (try dsimp only at hSw); go_simp) <;> with_reducible rfl)); (try simp only [Act.put, List.setIfInBounds_toArray, List.set_cons_zero, List.set_cons_succ]))
  (refine wpAnyH_take (i := 12) (oi := ?oi_2_12) (v := ?v_2_12) ?ho_2_12 ?hs_2_12 ?hf_2_12 ?hr_2_12 ?hQ_2_12 ?hy_2_12 ?hS_2_12 ?rest_2_12; (case hr_2_12 => kernel_rfl); (case hf_2_12 => kernel_rfl); (case hs_2_12 => kernel_rfl); (case ho_2_12 => (simp only [List.getElem?_toArray, List.getElem?_cons_succ, List.getElem?_cons_zero]; rfl)); (case hS_2_12 => assumption); (case hQ_2_12 => exact fun _ _ _ h => h); (case hy_2_12 => (refine Or.inl ⟨by rfl, ?_⟩; (intro w hSw; (try dsimp only at hSw); go_simp) <;> with_reducible rfl)); (try simp only [Act.put, List.setIfInBounds_toArray, List.set_cons_zero, List.set_cons_succ]))
  (refine wpAnyH_take (i := 13) (oi := ?oi_2_13) (v := ?v_2_13) ?ho_2_13 ?hs_2_13 ?hf_2_13 ?hr_2_13 ?hQ_2_13 ?hy_2_13 ?hS_2_13 ?rest_2_13; (case hr_2_13 => kernel_rfl); (case hf_2_13 => kernel_rfl); (case hs_2_13 => kernel_rfl); (case ho_2_13 => (simp only [List.getElem?_toArray, List.getElem?_cons_succ, List.getElem?_cons_zero]; rfl)); (case hS_2_13 => assumption); (case hQ_2_13 => exact fun _ _ _ h => h); (case hy_2_13 => (refine Or.inl ⟨by rfl, ?_⟩; (intro w hSw; (try dsimp only at hSw); go_simp) <;> with_reducible rfl)); (try simp only [Act.put, List.setIfInBounds_toArray, List.set_cons_zero, List.set_cons_succ]))
  (refine wpAnyH_take (i := 14) (oi := ?oi_2_14) (v := ?v_2_14) ?ho_2_14 ?hs_2_14 ?hf_2_14 ?hr_2_14 ?hQ_2_14 ?hy_2_14 ?hS_2_14 ?rest_2_14; (case hr_2_14 => kernel_rfl); (case hf_2_14 => kernel_rfl); (case hs_2_14 => kernel_rfl); (case ho_2_14 => (simp only [List.getElem?_toArray, List.getElem?_cons_succ, List.getElem?_cons_zero]; rfl)); (case hS_2_14 => assumption); (case hQ_2_14 => exact fun _ _ _ h => h); (case hy_2_14 => (refine Or.inl ⟨by rfl, ?_⟩; (intro w hSw; (try dsimp only at hSw); go_simp) <;> with_reducible rfl)); (try simp only [Act.put, List.setIfInBounds_toArray, List.set_cons_zero, List.set_cons_succ]))
  refine wpAnyH_done (by kernel_rfl) ?_ _
  all_goals
    have hR3 := Lib.hid (hRm.out _ hU2)
    go_wp2_with fail
    refine hR3.out.mono ?_
    rintro en w3 ⟨rfl, hu3⟩
    have hU3 := hU2.trans hu3 fun _ _ h => h
    clear hR3 hRm hC
    go_wp2_with fail
    exact hfin.out _ hU3
end
end Go.Proofs.Ytmnoldikimcafaa
