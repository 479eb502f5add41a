/- The walk over RingFound. -/
import Derived.Test.YtmnoldikimcafaaMRgP
namespace Go.Proofs.Ytmnoldikimcafaa
open Go.RowKit Go.Amb Go.Shelf
set_option linter.unusedVariables false
set_option linter.unusedSimpArgs false
set_option maxRecDepth 100000
/-- A row of texts of the call's own, apart from some blocks. -/
structure TxO (base : Nat) (w : World) (S : Nat → Prop) (v : Value) (T : List (List UInt8)) : Prop where
  own : w.ownsRow base 9 1 v T.length (tc T)
  apart : ∀ k, At v k → ¬ S k
theorem TxO.keep {base : Nat} {w w' : World} {S S' : Nat → Prop} {v : Value} {T : List (List UInt8)} (h : TxO base w S v T) (hk : Kp w S w' S') : TxO base w' S' v T :=
  ⟨hk.upd.owns h.own h.apart, fun k hv hS => (hk.own k hS).elim (h.apart k hv) fun h' => by have := own_lt h.own hv; omega⟩
theorem TxO.nil (base : Nat) (w : World) (S : Nat → Prop) : TxO base w S (.slice none 0 0) [] := ⟨World.ownsRow_nil _ _ _ _, fun k hk => by simp [At, Value.ownBlock] at hk⟩
theorem tc_app (a b : List (List UInt8)) : tc (a ++ b) = tc a ++ tc b := by simp [tc]
theorem tc_one' (l : List (List UInt8)) : ∀ u ∈ tc l, u.oneCell' = true := by
  intro u hu
  unfold tc at hu
  obtain ⟨s, -, rfl⟩ := List.mem_map.1 hu
  rfl
theorem info_str : (Try.prog.info? 9).map (fun i => (i.zero, i.size, i.bytes)) = some (some (.string ⟨#[]⟩), 1, 16) := rfl
theorem TxO.grow {base : Nat} {w w' : World} {S : Nat → Prop} {v v' : Value} {T : List (List UInt8)} {s : List UInt8} (h : TxO base w S v T) (hS : ∀ k, S k → k < w.heap.size) (ho : w'.ownsRow base 9 1 v' (T.length + 1) (tc T ++ [.string ⟨s.toArray⟩])) (hf : ∀ k, At v' k → At v k ∨ w.heap.size ≤ k) : TxO base w' S v' (T ++ [s]) :=
  ⟨by rw [tc_app, List.length_append]; exact ho, fun k hk hSk => (hf k hk).elim (fun h' => h.apart k h' hSk) fun h' => by have := hS k hSk; omega⟩
theorem Kp.or {w w' : World} {F F' : Nat → Prop} (G : Nat → Prop) (hk : Kp w F w' F') : Kp w (fun k => F k ∨ G k) w' (fun k => F' k ∨ G k) :=
  ⟨hk.upd.mono fun _ _ h => .inl h, fun k h => h.elim (fun h => (hk.own k h).imp .inl id) fun h => .inl (.inr h)⟩
theorem Rv.upd {S : Nat → Prop} {w0 w w' : World} {R D : Nat} {F G : Nat → Prop} {d : Dk} {r : Rn} (h : Rv w0 w R D F G d r) (hu : Upd S w w') (hS : ∀ k, F k ∨ G k → ¬ S k) (h0 : ∀ k, S k → w0.heap.size ≤ k) : Rv w0 w' R D F G d r :=
  ⟨⟨h.disk.at_.upd hu fun k hk => hS k (.inl hk), h.disk.upd.trans hu fun j hj hk => by have := h0 j hk; omega, h.disk.own⟩, h.ring.upd hu fun k hk => hS k (.inr hk), h.apart, h.ownG⟩
theorem Rv.lt {w0 w : World} {R D : Nat} {F G : Nat → Prop} {d : Dk} {r : Rn} (h : Rv w0 w R D F G d r) : ∀ k, F k ∨ G k → k < w.heap.size := fun k hk => hk.elim (h.disk.at_.lt k) (h.ring.lt k)
theorem has_take {w : World} {n m c : Nat} {a : Option Addr} {xs : List (List UInt8)} (h : Has w 1 (.slice a n c) n (tc xs)) (hm : m ≤ n) : Has w 1 (.slice a m c) m (tc (xs.take m)) := by
  obtain ⟨hl, a', c', e, h1, h2, h3⟩ := h
  injection e with e1 e2 e3
  subst e1 e3
  have hxl : xs.length = n := by simpa [tc] using hl
  refine ⟨by unfold tc; rw [List.length_map, List.length_take]; omega, _, _, rfl, by omega, h2, ?_⟩
  rcases h3 with h3 | ⟨g, off, rfl, hc⟩
  · exact .inl (by omega)
  · refine .inr ⟨g, off, rfl, fun j u hj => hc j u ?_⟩
    unfold tc at hj ⊢
    rw [List.map_take, List.getElem?_take] at hj
    split at hj
    · exact hj
    · cases hj
set_option maxHeartbeats 2000000 in
theorem found06Out (aa ab : Option Addr) (NA NB ca cb : Nat) (vk : Value) (e : Int) (w : World) (ha63 : NA < 9223372036854775808) (hb63 : NB < 9223372036854775808) (hg : ¬ (NA ≤ 60 ∧ NB ≤ 60 ∧ 0 ≤ e ∧ e ≤ 1000000)) :
    Calls Try.prog 3 #[.slice aa NA ca, .slice ab NB cb, vk, .int .i64 e] w (Ret (.bool true) w) := by
  have hlv := Lib.hid lives06
  have cN := Lib.hid (lvNew 40 (by omega) (by omega) w)
  by_cases g1 : NA ≤ 60
  · have g1I : ((60 : Int) < (NA : Int)) = False := eq_false (by omega)
    by_cases g2 : NB ≤ 60
    · have g2I : ((60 : Int) < (NB : Int)) = False := eq_false (by omega)
      by_cases g3 : 0 ≤ e
      · have g3I : (e < 0) = False := eq_false (by omega)
        have g4I : (1000000 : Int) < e := by omega
        clear hg
        go_enter Try.func3, Try.ntmps3
        go_wp2_with fail
        refine cN.out.mono ?_
        rintro en w1 ⟨D, F1, rfl, L1⟩
        clear cN
        have hU := L1.upd
        go_wp2_with fail
        refine (hlv.out _).mono ?_
        rintro en wl ⟨rfl, hul⟩
        go_wp2_with fail
        go_ret
        exact ⟨rfl, hU.trans hul fun _ _ h => h⟩
      · have g3I : e < 0 := by omega
        clear hg
        go_enter Try.func3, Try.ntmps3
        go_wp2_with fail
        refine cN.out.mono ?_
        rintro en w1 ⟨D, F1, rfl, L1⟩
        clear cN
        have hU := L1.upd
        go_wp2_with fail
        refine (hlv.out _).mono ?_
        rintro en wl ⟨rfl, hul⟩
        go_wp2_with fail
        go_ret
        exact ⟨rfl, hU.trans hul fun _ _ h => h⟩
    · have g2I : (60 : Int) < (NB : Int) := by omega
      clear hg
      go_enter Try.func3, Try.ntmps3
      go_wp2_with fail
      refine cN.out.mono ?_
      rintro en w1 ⟨D, F1, rfl, L1⟩
      clear cN
      have hU := L1.upd
      go_wp2_with fail
      refine (hlv.out _).mono ?_
      rintro en wl ⟨rfl, hul⟩
      go_wp2_with fail
      go_ret
      exact ⟨rfl, hU.trans hul fun _ _ h => h⟩
  · have g1I : (60 : Int) < (NA : Int) := by omega
    clear hg
    go_enter Try.func3, Try.ntmps3
    go_wp2_with fail
    refine cN.out.mono ?_
    rintro en w1 ⟨D, F1, rfl, L1⟩
    clear cN
    have hU := L1.upd
    go_wp2_with fail
    refine (hlv.out _).mono ?_
    rintro en wl ⟨rfl, hul⟩
    go_wp2_with fail
    go_ret
    exact ⟨rfl, hU.trans hul fun _ _ h => h⟩
set_option maxHeartbeats 8000000 in
theorem found06 (va vb vk : Value) (a b : List (List UInt8)) (keep : List Int) (e : Int) (w : World) (hTa : TxtsAt w va a) (hTb : TxtsAt w vb b) (hI : Ints w vk keep) (hIl : ∀ k, At vk k → 0 < keep.length → k < w.heap.size) (ha63 : a.length < 9223372036854775808) (hb63 : b.length < 9223372036854775808) :
    Calls Try.prog 3 #[va, vb, vk, .int .i64 e] w (Ret (.bool true) w) := by
  have hlv := Lib.hid lives06
  have cN := Lib.hid (lvNew 40 (by omega) (by omega) w)
  obtain ⟨aa, ca, rfl, hxa⟩ := txts_at hTa
  obtain ⟨ab, cb, rfl, hxb⟩ := txts_at hTb
  obtain ⟨_, ak, ck, rfl, -⟩ := id hI
  replace hxa := Lib.hid hxa
  replace hxb := Lib.hid hxb
  replace hIl := Lib.hid hIl
  obtain ⟨NA, hNA⟩ : ∃ N, a.length = N := ⟨_, rfl⟩
  obtain ⟨NB, hNB⟩ : ∃ N, b.length = N := ⟨_, rfl⟩
  obtain ⟨NK, hNK⟩ : ∃ N, keep.length = N := ⟨_, rfl⟩
  have hNAh := Lib.hid hNA
  have hNBh := Lib.hid hNB
  have hI2 : Hid (∀ w', Upd Non w w' → Ints w' (.slice ak NK ck) keep) := Lib.hid (by subst hNK; exact fun w' hu => hI.upd hu fun _ _ h => h)
  clear hI
  rw [hNK] at hIl ⊢
  rw [hNA] at ha63 ⊢
  rw [hNB] at hb63 ⊢
  have hNKh := Lib.hid hNK
  clear hNA hNB hTa hTb hNK
  by_cases hg : NA ≤ 60 ∧ NB ≤ 60 ∧ 0 ≤ e ∧ e ≤ 1000000
  · obtain ⟨g1, g2, g3, g4⟩ := hg
    have g1I : ((60 : Int) < (NA : Int)) = False := eq_false (by omega)
    have g2I : ((60 : Int) < (NB : Int)) = False := eq_false (by omega)
    have g3I : (e < 0) = False := eq_false (by omega)
    have g4I : ((1000000 : Int) < e) = False := eq_false (by omega)
    obtain ⟨o1, o2⟩ := open_new e ⟨g3, g4⟩
    have hj0 := jr_new e
    have hK0 : Kept (List.replicate 40 zer) (cutAll (e + 1) 0 []) 0 := zer_kept
    have hok0 : (openS (Dk.new 40) 3 36 0 e).Ok := by rw [o1]; exact okOf _ (by simp only [List.length_nil]; omega)
    go_enter Try.func3, Try.ntmps3
    go_wp2_with fail
    refine cN.out.mono ?_
    rintro en w1 ⟨D, F1, rfl, L1⟩
    clear cN
    have cO := rvOpen L1 (by decide) (by decide) 3 36 0 e (by omega) (by decide) (by omega) (by omega) g3 (by omega) (by rw [o2]; omega) (by rw [o2]; omega) hok0
    rw [o1] at cO
    replace cO := Lib.hid cO
    clear o1 o2 hok0
    generalize List.replicate 40 zer = K0 at *
    generalize Dk.new 40 = d0 at *
    go_wp2_with fail
    refine cO.out.mono ?_
    rintro en w2 ⟨R, G1, rfl, V1, hu2, -⟩
    clear cO L1 hu2 g1I g2I g3I g4I
    go_wp2_with fail
    go_loopw [13, 15] (fun sv iv wr => ∃ (i : Nat) (F G : Nat → Prop) (d : Dk) (r : Rn) (T : List (List UInt8)), iv = .int .i64 (i : Int) ∧ i ≤ NA ∧ T.length ≤ i ∧ Rv w wr R D F G d r ∧ Jr K0 [] T (e + 1) d r ∧ TxO w.heap.size wr (fun k => F k ∨ G k) sv T) (fun _ iv _ => NA - (intOf iv).toNat)
    case atStart => exact ⟨0, _, _, _, _, [], rfl, Nat.zero_le _, Nat.le_refl _, V1, hj0, TxO.nil _ _ _⟩
    case round =>
      clear V1 hj0
      obtain ⟨i, F, G, d, r, T, rfl, hi, hTi, hV, hJ, hS⟩ := hrel
      by_cases hin : i < NA
      · have hinI : (i : Int) < (NA : Int) := by omega
        have hi0 : (0 : Int) ≤ (i : Int) := by omega
        have hil : i < a.length := by rw [hNAh.out]; exact hin
        obtain ⟨g, off, rfl, x0⟩ := hxa.out i hil
        generalize a[i]'hil = s at *
        have y0 := hV.disk.upd.cell x0 fun h => h
        by_cases hs : s.length ≤ 20000
        · have hsI : ((20000 : Int) < (s.length : Int)) = False := eq_false (by omega)
          have hfit := hJ.fit hK0.n
          have cA := rvAppend hV hfit.1 hfit.2.1 hfit.2.2.1 hfit.2.2.2.1 hfit.2.2.2.2 s
          by_cases h0 : appE r s = 0
          · have hJ' := hJ.app s h0
            rw [h0] at cA
            generalize appDs d r s = d' at *
            generalize appRs r s = r' at *
            replace cA := Lib.hid cA
            clear hfit h0 hJ
            go_wp2_with fail
            refine cA.out.mono ?_
            rintro en w3 ⟨rfl, F3, G3, V3, k3⟩
            have hS3 := hS.keep k3
            have y3 := V3.disk.upd.cell x0 fun h => h
            have hb3 : w.heap.size ≤ w3.heap.size := V3.disk.upd.size
            have hlS := hS3.own
            obtain ⟨n, hn⟩ : ∃ n, T.length = n := ⟨_, rfl⟩
            have hnh := Lib.hid hn
            have hn2 : n ≤ 200 := by rw [← hn]; first | omega | (simp only [List.length_append]; omega)
            rw [hn] at hlS
            have hinf := Lib.hid (@info_str)
            clear cA k3 y0 hn hV hS
            go_wp2_with (at_builtin; go_must (refine wpList_app1n rfl _ _ 22 rfl w.heap.size 9 (.string ⟨#[]⟩) 1 16 Try.underlying22 hinf.out rfl _ _ _ rfl hlS [.string ⟨s.toArray⟩] w3.heap.size rfl rfl rfl (by intro u hu; simp at hu; subst hu; rfl) (by unfold maxLen; omega) (by omega) (by omega) ?_))
            intro v4 w4 ho4 hu4 hf4
            have hown := hS3.apart
            have V4 := V3.upd hu4 (fun k hk h => hown k h hk) (fun k h => own_ge hlS h)
            have hS4 := hS3.grow V3.lt (by rw [hnh.out]; exact ho4) hf4
            clear V3 hS3 hu4 hf4 ho4 hlS hown y3
            go_wp2_with fail
            go_roundw
            case rel => exact ⟨i + 1, _, _, _, _, T ++ [s], by go_num, by omega, by simp; omega, V4, hJ', hS4⟩
            case measure => simp [intOf]; omega
          · obtain ⟨e1, e2⟩ := Jr.same (d := d) h0
            rw [e1, e2] at cA
            have hx0 : (appE r s == 0) = false := by simpa using h0
            have hx1 : (appE r s = 0) = False := eq_false h0
            generalize appE r s = x at *
            replace cA := Lib.hid cA
            clear hfit e1 e2 h0
            go_wp2_with fail
            refine cA.out.mono ?_
            rintro en w3 ⟨rfl, F3, G3, V3, k3⟩
            have hS3 := hS.keep k3
            clear cA k3 y0 hV hS
            go_wp2_with fail
            go_roundw
            case rel => exact ⟨i + 1, _, _, _, _, T, by go_num, by omega, by omega, V3, hJ, hS3⟩
            case measure => simp [intOf]; omega
        · have hsI : (20000 : Int) < (s.length : Int) := by omega
          have hU := hV.disk.upd
          go_wp2_with fail
          refine (hlv.out _).mono ?_
          rintro en wl ⟨rfl, hul⟩
          go_wp2_with fail
          go_ret
          exact ⟨rfl, hU.trans hul fun _ _ h => h⟩
      · obtain rfl : i = NA := by omega
        have hinI : ¬ (i : Int) < (i : Int) := by omega
        obtain ⟨hf2, K1, hJ1, hK1⟩ := hJ.flush hK0
        have hfit := hJ.fit hK0.n
        have cS := rvSync hV (by omega)
        rw [hf2] at cS
        generalize d.flush.1 = d1 at *
        replace cS := Lib.hid cS
        obtain ⟨_, sa, sc', rfl, -⟩ := has_of_owns hS.own
        generalize T = A at *
        obtain ⟨n, hn⟩ : ∃ n, A.length = n := ⟨_, rfl⟩
        have hnh := Lib.hid hn
        rw [hn] at hS hTi ⊢
        have hS0 := hS.own
        rw [hn] at hS0
        clear hn hf2 hfit hJ
        go_wp2_with fail
        refine cS.out.mono ?_
        rintro en w3 ⟨rfl, F3, V3, k3⟩
        have hap := hS.apart
        have hS3 := (k3.or G).upd.owns hS0 hap
        have hinf := Lib.hid (@info_str)
        have hb3 : w.heap.size ≤ w3.heap.size := V3.disk.upd.size
        clear cS k3 hV hS hS0 hap
        go_wp2_with (at_builtin; go_must (refine wpList_app rfl _ _ 22 22 rfl w.heap.size 9 (.string ⟨#[]⟩) 1 16 Try.underlying22 hinf.out rfl _ 0 [] rfl (World.ownsRow_nil _ _ _ _) _ n (tc A) rfl (Src.ofHas Try.underlying22 (has_of_owns hS3) (tc_one' A)) (by unfold maxLen; omega) (by omega) (by omega) ?_))
        intro v4 w4 ho4 hu4 hf4
        have hnil : ∀ k, ¬ At (.slice none 0 0) k := fun k hk => by simp [At, Value.ownBlock] at hk
        have V4 := V3.upd hu4 (fun k _ h => hnil k h) (fun k h => (hnil k h).elim)
        have hS4 : TxO w.heap.size w4 (fun k => F3 k ∨ G k) v4 (A ++ []) := by
          rw [List.append_nil]
          refine ⟨by rw [hnh.out]; exact ho4, fun k hk hS => (hf4 k hk).elim (hnil k) fun h' => by have := V3.lt k hS; omega⟩
        have hA60 : A.length ≤ 60 := by rw [hnh.out]; omega
        clear V3 hu4 hf4 ho4 hnil hS3
        go_wp2_with fail
        go_loopw [14, 16] (fun sv iv wr => ∃ (i : Nat) (F G : Nat → Prop) (d : Dk) (r : Rn) (T : List (List UInt8)), iv = .int .i64 (i : Int) ∧ i ≤ NB ∧ T.length ≤ i ∧ Rv w wr R D F G d r ∧ Jr K1 A T (e + 1) d r ∧ TxO w.heap.size wr (fun k => F k ∨ G k) sv (A ++ T)) (fun _ iv _ => NB - (intOf iv).toNat)
        case atStart => exact ⟨0, _, _, _, _, [], rfl, Nat.zero_le _, Nat.le_refl _, V4, hJ1, hS4⟩
        case round =>
          clear V4 hJ1 hS4
          obtain ⟨i, F, G, d, r, T, rfl, hi, hTi, hV, hJ, hS⟩ := hrel
          by_cases hin : i < NB
          · have hinI : (i : Int) < (NB : Int) := by omega
            have hi0 : (0 : Int) ≤ (i : Int) := by omega
            have hil : i < b.length := by rw [hNBh.out]; exact hin
            obtain ⟨g, off, rfl, x0⟩ := hxb.out i hil
            generalize b[i]'hil = s at *
            have y0 := hV.disk.upd.cell x0 fun h => h
            by_cases hs : s.length ≤ 20000
            · have hsI : ((20000 : Int) < (s.length : Int)) = False := eq_false (by omega)
              have hfit := hJ.fit hK1.n
              have cA := rvAppend hV hfit.1 hfit.2.1 hfit.2.2.1 hfit.2.2.2.1 hfit.2.2.2.2 s
              by_cases h0 : appE r s = 0
              · have hJ' := hJ.app s h0
                rw [h0] at cA
                generalize appDs d r s = d' at *
                generalize appRs r s = r' at *
                replace cA := Lib.hid cA
                clear hfit h0 hJ
                go_wp2_with fail
                refine cA.out.mono ?_
                rintro en w3 ⟨rfl, F3, G3, V3, k3⟩
                have hS3 := hS.keep k3
                have y3 := V3.disk.upd.cell x0 fun h => h
                have hb3 : w.heap.size ≤ w3.heap.size := V3.disk.upd.size
                have hlS := hS3.own
                obtain ⟨n, hn⟩ : ∃ n, (A ++ T).length = n := ⟨_, rfl⟩
                have hnh := Lib.hid hn
                have hn2 : n ≤ 200 := by rw [← hn]; first | omega | (simp only [List.length_append]; omega)
                rw [hn] at hlS
                have hinf := Lib.hid (@info_str)
                clear cA k3 y0 hn hV hS
                go_wp2_with (at_builtin; go_must (refine wpList_app1n rfl _ _ 22 rfl w.heap.size 9 (.string ⟨#[]⟩) 1 16 Try.underlying22 hinf.out rfl _ _ _ rfl hlS [.string ⟨s.toArray⟩] w3.heap.size rfl rfl rfl (by intro u hu; simp at hu; subst hu; rfl) (by unfold maxLen; omega) (by omega) (by omega) ?_))
                intro v4 w4 ho4 hu4 hf4
                have hown := hS3.apart
                have V4 := V3.upd hu4 (fun k hk h => hown k h hk) (fun k h => own_ge hlS h)
                have hS4 := hS3.grow V3.lt (by rw [hnh.out]; exact ho4) hf4
                clear V3 hS3 hu4 hf4 ho4 hlS hown y3
                go_wp2_with fail
                go_roundw
                case rel => exact ⟨i + 1, _, _, _, _, T ++ [s], by go_num, by omega, by simp; omega, V4, hJ', (by rw [← List.append_assoc]; exact hS4)⟩
                case measure => simp [intOf]; omega
              · obtain ⟨e1, e2⟩ := Jr.same (d := d) h0
                rw [e1, e2] at cA
                have hx0 : (appE r s == 0) = false := by simpa using h0
                have hx1 : (appE r s = 0) = False := eq_false h0
                generalize appE r s = x at *
                replace cA := Lib.hid cA
                clear hfit e1 e2 h0
                go_wp2_with fail
                refine cA.out.mono ?_
                rintro en w3 ⟨rfl, F3, G3, V3, k3⟩
                have hS3 := hS.keep k3
                clear cA k3 y0 hV hS
                go_wp2_with fail
                go_roundw
                case rel => exact ⟨i + 1, _, _, _, _, T, by go_num, by omega, by omega, V3, hJ, hS3⟩
                case measure => simp [intOf]; omega
            · have hsI : (20000 : Int) < (s.length : Int) := by omega
              have hU := hV.disk.upd
              go_wp2_with fail
              refine (hlv.out _).mono ?_
              rintro en wl ⟨rfl, hul⟩
              go_wp2_with fail
              go_ret
              exact ⟨rfl, hU.trans hul fun _ _ h => h⟩
          · obtain rfl : i = NB := by omega
            have hinI : ¬ (i : Int) < (i : Int) := by omega
            obtain ⟨K2, hd2, hK2⟩ := hJ.crash hK1 keep
            have hfit := hJ.fit hK1.n
            have hdo := hV.disk.own
            have hu0 := hV.disk.upd
            have cC := lvCrash hV.disk (by omega) _ keep (hI2.out _ hu0) (fun hp k hk hF => by have h1 := hIl.out k hk (by rw [← hNKh.out]; exact hp); have h2 := hdo k hF; omega)
            rw [hd2] at cC
            replace cC := Lib.hid cC
            obtain ⟨fok, fy, fe, cc, fc1, fc2, fL⟩ := found (A := A) (B := T) ⟨g3, g4⟩ hJ.ok hJ.le hK2
            have fKn := hK2.n
            have hmap : Hid (((recsL 0 (A ++ T)).take cc).map (·.d) = (A ++ T).take cc) := Lib.hid (by rw [List.map_take, recsL_data])
            have hlen : Hid (((recsL 0 (A ++ T)).take cc).length = cc) := Lib.hid (by rw [List.length_take, recsL_length]; omega)
            have hopen : Hid (∀ w', Lv w D w' F ⟨K2, [], -1, false⟩ → True) := Lib.hid fun _ _ => trivial
            have hOp : Hid (∀ w' F', Lv w D w' F' ⟨K2, [], -1, false⟩ → Calls Try.prog 8 #[.pointer (some ⟨D, 0, none⟩), .int .i64 3, .int .i64 36, .int .i64 0, .int .i64 e] w'
                (fun en w'' => ∃ R G, en = .returned (.tuple #[.pointer (some ⟨R, 0, none⟩), .int .i64 0]) ∧ Rv w w'' R D F' G ⟨K2, [], -1, false⟩ (openS ⟨K2, [], -1, false⟩ 3 36 0 e) ∧ Upd Non w' w'' ∧ ∀ k, G k → w'.heap.size ≤ k)) :=
              Lib.hid (fun w' F' h => rvOpen h (Nat.zero_le _) rfl 3 36 0 e (by omega) (by show 3 + 36 ≤ K2.length; omega) (by omega) (by omega) g3 (by omega) fy.1 fy.2 fok)
            generalize openS ⟨K2, [], -1, false⟩ 3 36 0 e = o at *
            obtain ⟨_, sb, sd, rfl, -⟩ := has_of_owns hS.own
            obtain ⟨m, hm⟩ : ∃ m, (A ++ T).length = m := ⟨_, rfl⟩
            rw [hnh.out] at fc1
            have hmh := Lib.hid hm
            have hS0 := hS.own
            rw [hm] at hS0 fc2 ⊢
            have hap := hS.apart
            rw [hm] at hap
            have hoL := fok.l
            have hmi : m ≤ 120 := by rw [← hm, List.length_append, hnh.out]; omega
            clear hd2 hfit hdo fy fok hJ hS hm hK2 hopen hu0
            go_wp2_with fail
            refine cC.out.mono ?_
            rintro en w5 ⟨rfl, F5, L5, k5⟩
            have hS5 := has_of_owns ((k5.or G).upd.owns hS0 hap)
            have cO := Lib.hid (hOp.out _ _ L5)
            clear cC hV k5 hS0 hap
            go_wp2_with fail
            refine cO.out.mono ?_
            rintro en w6 ⟨Rx, Gx, rfl, X6, hu6, -⟩
            have hS6 := hS5.upd hu6 fun _ _ h => h
            have cR := lRecords X6.ring
            unfold RecsTo at cR
            rw [fL, hlen.out] at cR
            replace cR := Lib.hid cR
            clear cO L5 hS5 hu6
            go_wp2_with fail
            refine cR.out.mono ?_
            rintro en w7 ⟨vl, rfl, hvl, hu7⟩
            have hS7 := hS6.upd hu7 fun _ _ h => h
            have X7 := X6.non hu7
            obtain ⟨_, la, lc, rfl, -⟩ := has_of_owns hvl
            clear cR X6 hS6 hu7
            have c1I : ((cc : Int) < (n : Int)) = False := eq_false (by omega)
            have c2I : ((m : Int) < (cc : Int)) = False := eq_false (by omega)
            have hOs := has_of_owns hvl
            have hcm : cc ≤ sd ∧ sd ≤ maxLen := by
              obtain ⟨_, a', c', e', h1, h2, -⟩ := hS7
              injection e' with e1 e2 e3
              subst e3
              exact ⟨by omega, h2⟩
            have c3I : (cc : Int) ≤ (sd : Int) := by omega
            have c4I : (0 : Int) ≤ (cc : Int) := by omega
            have hS8 : ∀ w', Upd Non w7 w' → TxtsAt w' (.slice sb cc sd) ((A ++ T).take cc) := fun w' hu => by
              have h1 := hS7.upd hu fun _ _ h => h
              have h2 : ((A ++ T).take cc).length = cc := by rw [List.length_take, hmh.out]; omega
              unfold TxtsAt
              rw [h2]
              exact has_take h1 fc2
            have cS1 := lSame (.slice la cc lc) (.slice sb cc sd) ((recsL 0 (A ++ T)).take cc) ((A ++ T).take cc) w7 (by rw [hlen.out]; exact hOs) (hS8 _ (Upd.refl _ _)) hmap.out (by rw [hlen.out]; omega)
            have cE := Lib.hid (fun w' (hu : Upd Non w7 w') => lEpoch (X7.ring.non hu))
            have ceI : (o.ep ≤ e) = False := eq_false (by omega)
            replace cS1 := Lib.hid cS1
            replace hS8 := Lib.hid hS8
            replace hvl := Lib.hid hvl
            obtain ⟨hc1, hc2⟩ := hcm
            unfold maxLen at hc2
            clear hS7 hOs
            go_wp2_with fail
            refine cS1.out.mono ?_
            rintro en w8 ⟨rfl, hu8⟩
            clear cS1
            go_wp2_with fail
            refine (cE.out _ hu8).mono ?_
            rintro en w9 ⟨rfl, hu9⟩
            have hU9 := hu8.trans hu9 fun _ _ h => h
            have X9 := X7.non hU9
            have cO := Lib.hid (hOp.out _ _ X9.disk)
            clear cE hu8 hu9
            go_wp2_with fail
            refine cO.out.mono ?_
            rintro en w10 ⟨Ry, Gy, rfl, Y10, hu10, -⟩
            have hU10 := hU9.trans hu10 fun _ _ h => h
            have cRy : Hid (∀ w', Upd Non w10 w' → Calls Try.prog 12 #[.pointer (some ⟨Ry, 0, none⟩)] w' (fun en w'' => ∃ v, en = .returned v ∧ w''.ownsRow w'.heap.size 65 3 v cc (jc ((recsL 0 (A ++ T)).take cc)) ∧ Upd Non w' w'')) := Lib.hid (fun w' hu => by
              have h := lRecords (Y10.ring.non hu)
              unfold RecsTo at h
              rw [fL, hlen.out] at h
              exact h)
            have cNy := Lib.hid (fun w' (hu : Upd Non w10 w') => lNext (Y10.ring.non hu))
            have cEy := Lib.hid (fun w' (hu : Upd Non w10 w') => lEpoch (Y10.ring.non hu))
            have cNx := Lib.hid (fun w' (hu : Upd Non w10 w') => lNext ((X7.ring.non hU10).non hu))
            have cEx := Lib.hid (fun w' (hu : Upd Non w10 w') => lEpoch ((X7.ring.non hU10).non hu))
            have cSy : Hid (∀ w' ra rc b, Upd Non w10 w' → w'.ownsRow b 65 3 (.slice ra cc rc) cc (jc ((recsL 0 (A ++ T)).take cc)) → Calls Try.prog 13 #[.slice ra cc rc, .slice sb cc sd] w' (Ret (.bool true) w')) := Lib.hid (fun w' ra rc b hu ho =>
              lSame (.slice ra cc rc) (.slice sb cc sd) ((recsL 0 (A ++ T)).take cc) ((A ++ T).take cc) w' (by rw [hlen.out]; exact has_of_owns ho) (hS8.out _ (hU10.trans hu fun _ _ h => h)) hmap.out (by rw [hlen.out]; omega))
            have hUw := Lib.hid (X7.disk.upd.trans hU10 fun _ _ h => h)
            clear cO X9 Y10 X7 hU10 hU9 hOp hS8 hvl fL fe
            generalize o.nx = onx at *
            generalize o.ep = oep at *
            go_wp2_with fail
            refine wp_region_held_drew (S := (fun w' => True)) (by kernel_rfl) (by (try dsimp only); try trivial) (fun hHeld => ?_)
            (refine wpAnyH_take (i := 0) (oi := ?oi_1_0) (v := ?v_1_0) ?ho_1_0 ?hs_1_0 ?hf_1_0 ?hr_1_0 ?hQ_1_0 ?hy_1_0 ?hS_1_0 ?rest_1_0; (case hr_1_0 => kernel_rfl); (case hf_1_0 => kernel_rfl); (case hs_1_0 => kernel_rfl); (case ho_1_0 => (simp only [List.getElem?_toArray, List.getElem?_cons_succ, List.getElem?_cons_zero]; rfl)); (case hS_1_0 => assumption); (case hQ_1_0 => exact fun _ _ _ h => h); (case hy_1_0 => (refine Or.inl ⟨by rfl, ?_⟩; (intro w hSw; (try dsimp only at hSw); go_simp) <;> with_reducible rfl)); (try simp only [Act.put, List.setIfInBounds_toArray, List.set_cons_zero, List.set_cons_succ]))
            (refine wpAnyH_take (i := 1) (oi := ?oi_1_1) (v := ?v_1_1) ?ho_1_1 ?hs_1_1 ?hf_1_1 ?hr_1_1 ?hQ_1_1 ?hy_1_1 ?hS_1_1 ?rest_1_1; (case hr_1_1 => kernel_rfl); (case hf_1_1 => kernel_rfl); (case hs_1_1 => kernel_rfl); (case ho_1_1 => (simp only [List.getElem?_toArray, List.getElem?_cons_succ, List.getElem?_cons_zero]; rfl)); (case hS_1_1 => assumption); (case hQ_1_1 => exact fun _ _ _ h => h); (case hy_1_1 => (refine Or.inl ⟨by rfl, ?_⟩; (intro w hSw; (try dsimp only at hSw); go_simp) <;> with_reducible rfl)); (try simp only [Act.put, List.setIfInBounds_toArray, List.set_cons_zero, List.set_cons_succ]))
            (refine wpAnyH_take (i := 2) (oi := ?oi_1_2) (v := ?v_1_2) ?ho_1_2 ?hs_1_2 ?hf_1_2 ?hr_1_2 ?hQ_1_2 ?hy_1_2 ?hS_1_2 ?rest_1_2; (case hr_1_2 => kernel_rfl); (case hf_1_2 => kernel_rfl); (case hs_1_2 => kernel_rfl); (case ho_1_2 => (simp only [List.getElem?_toArray, List.getElem?_cons_succ, List.getElem?_cons_zero]; rfl)); (case hS_1_2 => assumption); (case hQ_1_2 => exact fun _ _ _ h => h); (case hy_1_2 => (refine Or.inl ⟨by rfl, ?_⟩; (intro w hSw; (try dsimp only at hSw); go_simp) <;> with_reducible rfl)); (try simp only [Act.put, List.setIfInBounds_toArray, List.set_cons_zero, List.set_cons_succ]))
            (refine wpAnyH_take (i := 3) (oi := ?oi_1_3) (v := ?v_1_3) ?ho_1_3 ?hs_1_3 ?hf_1_3 ?hr_1_3 ?hQ_1_3 ?hy_1_3 ?hS_1_3 ?rest_1_3; (case hr_1_3 => kernel_rfl); (case hf_1_3 => kernel_rfl); (case hs_1_3 => kernel_rfl); (case ho_1_3 => (simp only [List.getElem?_toArray, List.getElem?_cons_succ, List.getElem?_cons_zero]; rfl)); (case hS_1_3 => assumption); (case hQ_1_3 => exact fun _ _ _ h => h); (case hy_1_3 => (refine Or.inl ⟨by rfl, ?_⟩; (intro w hSw; (try dsimp only at hSw); go_simp) <;> with_reducible rfl)); (try simp only [Act.put, List.setIfInBounds_toArray, List.set_cons_zero, List.set_cons_succ]))
            (refine wpAnyH_take (i := 4) (oi := ?oi_1_4) (v := ?v_1_4) ?ho_1_4 ?hs_1_4 ?hf_1_4 ?hr_1_4 ?hQ_1_4 ?hy_1_4 ?hS_1_4 ?rest_1_4; (case hr_1_4 => kernel_rfl); (case hf_1_4 => kernel_rfl); (case hs_1_4 => kernel_rfl); (case ho_1_4 => (simp only [List.getElem?_toArray, List.getElem?_cons_succ, List.getElem?_cons_zero]; rfl)); (case hS_1_4 => assumption); (case hQ_1_4 => exact fun _ _ _ h => h); (case hy_1_4 => (refine Or.inl ⟨by rfl, ?_⟩; (intro w hSw; (try dsimp only at hSw); go_simp) <;> with_reducible rfl)); (try simp only [Act.put, List.setIfInBounds_toArray, List.set_cons_zero, List.set_cons_succ]))
            (refine wpAnyH_take (i := 5) (oi := ?oi_1_5) (v := ?v_1_5) ?ho_1_5 ?hs_1_5 ?hf_1_5 ?hr_1_5 ?hQ_1_5 ?hy_1_5 ?hS_1_5 ?rest_1_5; (case hr_1_5 => kernel_rfl); (case hf_1_5 => kernel_rfl); (case hs_1_5 => kernel_rfl); (case ho_1_5 => (simp only [List.getElem?_toArray, List.getElem?_cons_succ, List.getElem?_cons_zero]; rfl)); (case hS_1_5 => assumption); (case hQ_1_5 => exact fun _ _ _ h => h); (case hy_1_5 => (refine Or.inl ⟨by rfl, ?_⟩; (intro w hSw; (try dsimp only at hSw); go_simp) <;> with_reducible rfl)); (try simp only [Act.put, List.setIfInBounds_toArray, List.set_cons_zero, List.set_cons_succ]))
            (refine wpAnyH_take (i := 6) (oi := ?oi_1_6) (v := ?v_1_6) ?ho_1_6 ?hs_1_6 ?hf_1_6 ?hr_1_6 ?hQ_1_6 ?hy_1_6 ?hS_1_6 ?rest_1_6; (case hr_1_6 => kernel_rfl); (case hf_1_6 => kernel_rfl); (case hs_1_6 => kernel_rfl); (case ho_1_6 => (simp only [List.getElem?_toArray, List.getElem?_cons_succ, List.getElem?_cons_zero]; rfl)); (case hS_1_6 => assumption); (case hQ_1_6 => exact fun _ _ _ h => h); (case hy_1_6 => (refine Or.inl ⟨by rfl, ?_⟩; (intro w hSw; (try dsimp only at hSw); go_simp) <;> with_reducible rfl)); (try simp only [Act.put, List.setIfInBounds_toArray, List.set_cons_zero, List.set_cons_succ]))
            (refine wpAnyH_take (i := 7) (oi := ?oi_1_7) (v := ?v_1_7) ?ho_1_7 ?hs_1_7 ?hf_1_7 ?hr_1_7 ?hQ_1_7 ?hy_1_7 ?hS_1_7 ?rest_1_7; (case hr_1_7 => kernel_rfl); (case hf_1_7 => kernel_rfl); (case hs_1_7 => kernel_rfl); (case ho_1_7 => (simp only [List.getElem?_toArray, List.getElem?_cons_succ, List.getElem?_cons_zero]; rfl)); (case hS_1_7 => assumption); (case hQ_1_7 => exact fun _ _ _ h => h); (case hy_1_7 => (refine Or.inl ⟨by rfl, ?_⟩; (intro w hSw; (try dsimp only at hSw); go_simp) <;> with_reducible rfl)); (try simp only [Act.put, List.setIfInBounds_toArray, List.set_cons_zero, List.set_cons_succ]))
            (refine wpAnyH_take (i := 9) (oi := ?oi_1_9) (v := ?v_1_9) ?ho_1_9 ?hs_1_9 ?hf_1_9 ?hr_1_9 ?hQ_1_9 ?hy_1_9 ?hS_1_9 ?rest_1_9; (case hr_1_9 => kernel_rfl); (case hf_1_9 => kernel_rfl); (case hs_1_9 => kernel_rfl); (case ho_1_9 => (simp only [List.getElem?_toArray, List.getElem?_cons_succ, List.getElem?_cons_zero]; rfl)); (case hS_1_9 => assumption); (case hQ_1_9 => exact fun _ _ _ h => h); (case hy_1_9 => (refine Or.inl ⟨by rfl, ?_⟩; (intro w hSw; (try dsimp only at hSw); go_simp) <;> with_reducible rfl)); (try simp only [Act.put, List.setIfInBounds_toArray, List.set_cons_zero, List.set_cons_succ]))
            (refine wpAnyH_take (i := 10) (oi := ?oi_1_10) (v := ?v_1_10) ?ho_1_10 ?hs_1_10 ?hf_1_10 ?hr_1_10 ?hQ_1_10 ?hy_1_10 ?hS_1_10 ?rest_1_10; (case hr_1_10 => kernel_rfl); (case hf_1_10 => kernel_rfl); (case hs_1_10 => kernel_rfl); (case ho_1_10 => (simp only [List.getElem?_toArray, List.getElem?_cons_succ, List.getElem?_cons_zero]; rfl)); (case hS_1_10 => assumption); (case hQ_1_10 => exact fun _ _ _ h => h); (case hy_1_10 => (refine Or.inl ⟨by rfl, ?_⟩; (intro w hSw; (try dsimp only at hSw); go_simp) <;> with_reducible rfl)); (try simp only [Act.put, List.setIfInBounds_toArray, List.set_cons_zero, List.set_cons_succ]))
            (refine wpAnyH_take (i := 11) (oi := ?oi_1_11) (v := ?v_1_11) ?ho_1_11 ?hs_1_11 ?hf_1_11 ?hr_1_11 ?hQ_1_11 ?hy_1_11 ?hS_1_11 ?rest_1_11; (case hr_1_11 => kernel_rfl); (case hf_1_11 => kernel_rfl); (case hs_1_11 => kernel_rfl); (case ho_1_11 => (simp only [List.getElem?_toArray, List.getElem?_cons_succ, List.getElem?_cons_zero]; rfl)); (case hS_1_11 => assumption); (case hQ_1_11 => exact fun _ _ _ h => h); (case hy_1_11 => (refine Or.inl ⟨by rfl, ?_⟩; (intro w hSw; (try dsimp only at hSw); go_simp) <;> with_reducible rfl)); (try simp only [Act.put, List.setIfInBounds_toArray, List.set_cons_zero, List.set_cons_succ]))
            (refine wpAnyH_take (i := 12) (oi := ?oi_1_12) (v := ?v_1_12) ?ho_1_12 ?hs_1_12 ?hf_1_12 ?hr_1_12 ?hQ_1_12 ?hy_1_12 ?hS_1_12 ?rest_1_12; (case hr_1_12 => kernel_rfl); (case hf_1_12 => kernel_rfl); (case hs_1_12 => kernel_rfl); (case ho_1_12 => (simp only [List.getElem?_toArray, List.getElem?_cons_succ, List.getElem?_cons_zero]; rfl)); (case hS_1_12 => assumption); (case hQ_1_12 => exact fun _ _ _ h => h); (case hy_1_12 => (refine Or.inl ⟨by rfl, ?_⟩; (intro w hSw; (try dsimp only at hSw); go_simp) <;> with_reducible rfl)); (try simp only [Act.put, List.setIfInBounds_toArray, List.set_cons_zero, List.set_cons_succ]))
            (refine wpAnyH_ready (rs := [8]) (by kernel_rfl) (by simp) ?_; refine AllReadyH.cons (o := ?oo_1_8) ?hoo_1_8 ?hst_1_8 AllReadyH.nil; (case hoo_1_8 => (simp only [List.getElem?_toArray, List.getElem?_cons_succ, List.getElem?_cons_zero]; rfl)); intro K hK; go_simp; (first | (go_at_call 12; refine (cRy.out _ (Upd.drew Non w10)).mono ?_; rintro en w11 ⟨vr, rfl, hvr, hu11⟩; obtain ⟨_, ra, rc, rfl, -⟩ := has_of_owns hvr; have hV11 := (Upd.drew Non w10).trans hu11 fun _ _ h => h) | (go_at_call 13; refine (cSy.out _ ra rc _ hV11 hvr).mono ?_; rintro en w12 ⟨rfl, hu12⟩; have hV12 := hV11.trans hu12 fun _ _ h => h) | (go_at_call 15; refine (cNy.out _ hV12).mono ?_; rintro en w13 ⟨rfl, hu13⟩; have hV13 := hV12.trans hu13 fun _ _ h => h) | (go_at_call 15; refine (cNx.out _ hV13).mono ?_; rintro en w14 ⟨rfl, hu14⟩; have hV14 := hV13.trans hu14 fun _ _ h => h) | (go_at_call 14; refine (cEy.out _ hV14).mono ?_; rintro en w15 ⟨rfl, hu15⟩; have hV15 := hV14.trans hu15 fun _ _ h => h) | (go_at_call 14; refine (cEx.out _ hV15).mono ?_; rintro en w16 ⟨rfl, hu16⟩; have hV16 := hV15.trans hu16 fun _ _ h => h) | (go_at_call 7; refine (hlv.out _).mono ?_; rintro en w17 ⟨rfl, hu17⟩; have hV17 := hV16.trans hu17 fun _ _ h => h)); (try go_wp2_with fail); refine hK.out _ _ (by (try dsimp only); try trivial) (fun hHeld => ?_); clear hK K; (try simp only [Act.put, List.setIfInBounds_toArray, List.set_cons_zero, List.set_cons_succ]))
            (refine wpAnyH_ready (rs := [13]) (by kernel_rfl) (by simp) ?_; refine AllReadyH.cons (o := ?oo_1_13) ?hoo_1_13 ?hst_1_13 AllReadyH.nil; (case hoo_1_13 => (simp only [List.getElem?_toArray, List.getElem?_cons_succ, List.getElem?_cons_zero]; rfl)); intro K hK; go_simp; (first | (go_at_call 12; refine (cRy.out _ (Upd.drew Non w10)).mono ?_; rintro en w11 ⟨vr, rfl, hvr, hu11⟩; obtain ⟨_, ra, rc, rfl, -⟩ := has_of_owns hvr; have hV11 := (Upd.drew Non w10).trans hu11 fun _ _ h => h) | (go_at_call 13; refine (cSy.out _ ra rc _ hV11 hvr).mono ?_; rintro en w12 ⟨rfl, hu12⟩; have hV12 := hV11.trans hu12 fun _ _ h => h) | (go_at_call 15; refine (cNy.out _ hV12).mono ?_; rintro en w13 ⟨rfl, hu13⟩; have hV13 := hV12.trans hu13 fun _ _ h => h) | (go_at_call 15; refine (cNx.out _ hV13).mono ?_; rintro en w14 ⟨rfl, hu14⟩; have hV14 := hV13.trans hu14 fun _ _ h => h) | (go_at_call 14; refine (cEy.out _ hV14).mono ?_; rintro en w15 ⟨rfl, hu15⟩; have hV15 := hV14.trans hu15 fun _ _ h => h) | (go_at_call 14; refine (cEx.out _ hV15).mono ?_; rintro en w16 ⟨rfl, hu16⟩; have hV16 := hV15.trans hu16 fun _ _ h => h) | (go_at_call 7; refine (hlv.out _).mono ?_; rintro en w17 ⟨rfl, hu17⟩; have hV17 := hV16.trans hu17 fun _ _ h => h)); (try go_wp2_with fail); refine hK.out _ _ (by (try dsimp only); try trivial) (fun hHeld => ?_); clear hK K; (try simp only [Act.put, List.setIfInBounds_toArray, List.set_cons_zero, List.set_cons_succ]))
            (refine wpAnyH_take (i := 14) (oi := ?oi_1_14) (v := ?v_1_14) ?ho_1_14 ?hs_1_14 ?hf_1_14 ?hr_1_14 ?hQ_1_14 ?hy_1_14 ?hS_1_14 ?rest_1_14; (case hr_1_14 => kernel_rfl); (case hf_1_14 => kernel_rfl); (case hs_1_14 => kernel_rfl); (case ho_1_14 => (simp only [List.getElem?_toArray, List.getElem?_cons_succ, List.getElem?_cons_zero]; rfl)); (case hS_1_14 => assumption); (case hQ_1_14 => exact fun _ _ _ h => h); (case hy_1_14 => (refine Or.inl ⟨by rfl, ?_⟩; (intro w hSw; (try dsimp only at hSw); go_simp) <;> with_reducible rfl)); (try simp only [Act.put, List.setIfInBounds_toArray, List.set_cons_zero, List.set_cons_succ]))
            (refine wpAnyH_take (i := 15) (oi := ?oi_1_15) (v := ?v_1_15) ?ho_1_15 ?hs_1_15 ?hf_1_15 ?hr_1_15 ?hQ_1_15 ?hy_1_15 ?hS_1_15 ?rest_1_15; (case hr_1_15 => kernel_rfl); (case hf_1_15 => kernel_rfl); (case hs_1_15 => kernel_rfl); (case ho_1_15 => (simp only [List.getElem?_toArray, List.getElem?_cons_succ, List.getElem?_cons_zero]; rfl)); (case hS_1_15 => assumption); (case hQ_1_15 => exact fun _ _ _ h => h); (case hy_1_15 => (refine Or.inl ⟨by rfl, ?_⟩; (intro w hSw; (try dsimp only at hSw); go_simp) <;> with_reducible rfl)); (try simp only [Act.put, List.setIfInBounds_toArray, List.set_cons_zero, List.set_cons_succ]))
            (refine wpAnyH_take (i := 16) (oi := ?oi_1_16) (v := ?v_1_16) ?ho_1_16 ?hs_1_16 ?hf_1_16 ?hr_1_16 ?hQ_1_16 ?hy_1_16 ?hS_1_16 ?rest_1_16; (case hr_1_16 => kernel_rfl); (case hf_1_16 => kernel_rfl); (case hs_1_16 => kernel_rfl); (case ho_1_16 => (simp only [List.getElem?_toArray, List.getElem?_cons_succ, List.getElem?_cons_zero]; rfl)); (case hS_1_16 => assumption); (case hQ_1_16 => exact fun _ _ _ h => h); (case hy_1_16 => (refine Or.inl ⟨by rfl, ?_⟩; (intro w hSw; (try dsimp only at hSw); go_simp) <;> with_reducible rfl)); (try simp only [Act.put, List.setIfInBounds_toArray, List.set_cons_zero, List.set_cons_succ]))
            (refine wpAnyH_take (i := 18) (oi := ?oi_1_18) (v := ?v_1_18) ?ho_1_18 ?hs_1_18 ?hf_1_18 ?hr_1_18 ?hQ_1_18 ?hy_1_18 ?hS_1_18 ?rest_1_18; (case hr_1_18 => kernel_rfl); (case hf_1_18 => kernel_rfl); (case hs_1_18 => kernel_rfl); (case ho_1_18 => (simp only [List.getElem?_toArray, List.getElem?_cons_succ, List.getElem?_cons_zero]; rfl)); (case hS_1_18 => assumption); (case hQ_1_18 => exact fun _ _ _ h => h); (case hy_1_18 => (refine Or.inl ⟨by rfl, ?_⟩; (intro w hSw; (try dsimp only at hSw); go_simp) <;> with_reducible rfl)); (try simp only [Act.put, List.setIfInBounds_toArray, List.set_cons_zero, List.set_cons_succ]))
            (refine wpAnyH_ready (rs := [17]) (by kernel_rfl) (by simp) ?_; refine AllReadyH.cons (o := ?oo_1_17) ?hoo_1_17 ?hst_1_17 AllReadyH.nil; (case hoo_1_17 => (simp only [List.getElem?_toArray, List.getElem?_cons_succ, List.getElem?_cons_zero]; rfl)); intro K hK; go_simp; (first | (go_at_call 12; refine (cRy.out _ (Upd.drew Non w10)).mono ?_; rintro en w11 ⟨vr, rfl, hvr, hu11⟩; obtain ⟨_, ra, rc, rfl, -⟩ := has_of_owns hvr; have hV11 := (Upd.drew Non w10).trans hu11 fun _ _ h => h) | (go_at_call 13; refine (cSy.out _ ra rc _ hV11 hvr).mono ?_; rintro en w12 ⟨rfl, hu12⟩; have hV12 := hV11.trans hu12 fun _ _ h => h) | (go_at_call 15; refine (cNy.out _ hV12).mono ?_; rintro en w13 ⟨rfl, hu13⟩; have hV13 := hV12.trans hu13 fun _ _ h => h) | (go_at_call 15; refine (cNx.out _ hV13).mono ?_; rintro en w14 ⟨rfl, hu14⟩; have hV14 := hV13.trans hu14 fun _ _ h => h) | (go_at_call 14; refine (cEy.out _ hV14).mono ?_; rintro en w15 ⟨rfl, hu15⟩; have hV15 := hV14.trans hu15 fun _ _ h => h) | (go_at_call 14; refine (cEx.out _ hV15).mono ?_; rintro en w16 ⟨rfl, hu16⟩; have hV16 := hV15.trans hu16 fun _ _ h => h) | (go_at_call 7; refine (hlv.out _).mono ?_; rintro en w17 ⟨rfl, hu17⟩; have hV17 := hV16.trans hu17 fun _ _ h => h)); (try go_wp2_with fail); refine hK.out _ _ (by (try dsimp only); try trivial) (fun hHeld => ?_); clear hK K; (try simp only [Act.put, List.setIfInBounds_toArray, List.set_cons_zero, List.set_cons_succ]))
            (refine wpAnyH_ready (rs := [19]) (by kernel_rfl) (by simp) ?_; refine AllReadyH.cons (o := ?oo_1_19) ?hoo_1_19 ?hst_1_19 AllReadyH.nil; (case hoo_1_19 => (simp only [List.getElem?_toArray, List.getElem?_cons_succ, List.getElem?_cons_zero]; rfl)); intro K hK; go_simp; (first | (go_at_call 12; refine (cRy.out _ (Upd.drew Non w10)).mono ?_; rintro en w11 ⟨vr, rfl, hvr, hu11⟩; obtain ⟨_, ra, rc, rfl, -⟩ := has_of_owns hvr; have hV11 := (Upd.drew Non w10).trans hu11 fun _ _ h => h) | (go_at_call 13; refine (cSy.out _ ra rc _ hV11 hvr).mono ?_; rintro en w12 ⟨rfl, hu12⟩; have hV12 := hV11.trans hu12 fun _ _ h => h) | (go_at_call 15; refine (cNy.out _ hV12).mono ?_; rintro en w13 ⟨rfl, hu13⟩; have hV13 := hV12.trans hu13 fun _ _ h => h) | (go_at_call 15; refine (cNx.out _ hV13).mono ?_; rintro en w14 ⟨rfl, hu14⟩; have hV14 := hV13.trans hu14 fun _ _ h => h) | (go_at_call 14; refine (cEy.out _ hV14).mono ?_; rintro en w15 ⟨rfl, hu15⟩; have hV15 := hV14.trans hu15 fun _ _ h => h) | (go_at_call 14; refine (cEx.out _ hV15).mono ?_; rintro en w16 ⟨rfl, hu16⟩; have hV16 := hV15.trans hu16 fun _ _ h => h) | (go_at_call 7; refine (hlv.out _).mono ?_; rintro en w17 ⟨rfl, hu17⟩; have hV17 := hV16.trans hu17 fun _ _ h => h)); (try go_wp2_with fail); refine hK.out _ _ (by (try dsimp only); try trivial) (fun hHeld => ?_); clear hK K; (try simp only [Act.put, List.setIfInBounds_toArray, List.set_cons_zero, List.set_cons_succ]))
            (refine wpAnyH_take (i := 20) (oi := ?oi_1_20) (v := ?v_1_20) ?ho_1_20 ?hs_1_20 ?hf_1_20 ?hr_1_20 ?hQ_1_20 ?hy_1_20 ?hS_1_20 ?rest_1_20; (case hr_1_20 => kernel_rfl); (case hf_1_20 => kernel_rfl); (case hs_1_20 => kernel_rfl); (case ho_1_20 => (simp only [List.getElem?_toArray, List.getElem?_cons_succ, List.getElem?_cons_zero]; rfl)); (case hS_1_20 => assumption); (case hQ_1_20 => exact fun _ _ _ h => h); (case hy_1_20 => (refine Or.inl ⟨by rfl, ?_⟩; (intro w hSw; (try dsimp only at hSw); go_simp) <;> with_reducible rfl)); (try simp only [Act.put, List.setIfInBounds_toArray, List.set_cons_zero, List.set_cons_succ]))
            (refine wpAnyH_take (i := 21) (oi := ?oi_1_21) (v := ?v_1_21) ?ho_1_21 ?hs_1_21 ?hf_1_21 ?hr_1_21 ?hQ_1_21 ?hy_1_21 ?hS_1_21 ?rest_1_21; (case hr_1_21 => kernel_rfl); (case hf_1_21 => kernel_rfl); (case hs_1_21 => kernel_rfl); (case ho_1_21 => (simp only [List.getElem?_toArray, List.getElem?_cons_succ, List.getElem?_cons_zero]; rfl)); (case hS_1_21 => assumption); (case hQ_1_21 => exact fun _ _ _ h => h); (case hy_1_21 => (refine Or.inl ⟨by rfl, ?_⟩; (intro w hSw; (try dsimp only at hSw); go_simp) <;> with_reducible rfl)); (try simp only [Act.put, List.setIfInBounds_toArray, List.set_cons_zero, List.set_cons_succ]))
            (refine wpAnyH_take (i := 22) (oi := ?oi_1_22) (v := ?v_1_22) ?ho_1_22 ?hs_1_22 ?hf_1_22 ?hr_1_22 ?hQ_1_22 ?hy_1_22 ?hS_1_22 ?rest_1_22; (case hr_1_22 => kernel_rfl); (case hf_1_22 => kernel_rfl); (case hs_1_22 => kernel_rfl); (case ho_1_22 => (simp only [List.getElem?_toArray, List.getElem?_cons_succ, List.getElem?_cons_zero]; rfl)); (case hS_1_22 => assumption); (case hQ_1_22 => exact fun _ _ _ h => h); (case hy_1_22 => (refine Or.inl ⟨by rfl, ?_⟩; (intro w hSw; (try dsimp only at hSw); go_simp) <;> with_reducible rfl)); (try simp only [Act.put, List.setIfInBounds_toArray, List.set_cons_zero, List.set_cons_succ]))
            (refine wpAnyH_take (i := 23) (oi := ?oi_1_23) (v := ?v_1_23) ?ho_1_23 ?hs_1_23 ?hf_1_23 ?hr_1_23 ?hQ_1_23 ?hy_1_23 ?hS_1_23 ?rest_1_23; (case hr_1_23 => kernel_rfl); (case hf_1_23 => kernel_rfl); (case hs_1_23 => kernel_rfl); (case ho_1_23 => (simp only [List.getElem?_toArray, List.getElem?_cons_succ, List.getElem?_cons_zero]; rfl)); (case hS_1_23 => assumption); (case hQ_1_23 => exact fun _ _ _ h => h); (case hy_1_23 => (refine Or.inl ⟨by rfl, ?_⟩; (intro w hSw; (try dsimp only at hSw); go_simp) <;> with_reducible rfl)); (try simp only [Act.put, List.setIfInBounds_toArray, List.set_cons_zero, List.set_cons_succ]))
            (refine wpAnyH_take (i := 25) (oi := ?oi_1_25) (v := ?v_1_25) ?ho_1_25 ?hs_1_25 ?hf_1_25 ?hr_1_25 ?hQ_1_25 ?hy_1_25 ?hS_1_25 ?rest_1_25; (case hr_1_25 => kernel_rfl); (case hf_1_25 => kernel_rfl); (case hs_1_25 => kernel_rfl); (case ho_1_25 => (simp only [List.getElem?_toArray, List.getElem?_cons_succ, List.getElem?_cons_zero]; rfl)); (case hS_1_25 => assumption); (case hQ_1_25 => exact fun _ _ _ h => h); (case hy_1_25 => (refine Or.inl ⟨by rfl, ?_⟩; (intro w hSw; (try dsimp only at hSw); go_simp) <;> with_reducible rfl)); (try simp only [Act.put, List.setIfInBounds_toArray, List.set_cons_zero, List.set_cons_succ]))
            (refine wpAnyH_ready (rs := [24]) (by kernel_rfl) (by simp) ?_; refine AllReadyH.cons (o := ?oo_1_24) ?hoo_1_24 ?hst_1_24 AllReadyH.nil; (case hoo_1_24 => (simp only [List.getElem?_toArray, List.getElem?_cons_succ, List.getElem?_cons_zero]; rfl)); intro K hK; go_simp; (first | (go_at_call 12; refine (cRy.out _ (Upd.drew Non w10)).mono ?_; rintro en w11 ⟨vr, rfl, hvr, hu11⟩; obtain ⟨_, ra, rc, rfl, -⟩ := has_of_owns hvr; have hV11 := (Upd.drew Non w10).trans hu11 fun _ _ h => h) | (go_at_call 13; refine (cSy.out _ ra rc _ hV11 hvr).mono ?_; rintro en w12 ⟨rfl, hu12⟩; have hV12 := hV11.trans hu12 fun _ _ h => h) | (go_at_call 15; refine (cNy.out _ hV12).mono ?_; rintro en w13 ⟨rfl, hu13⟩; have hV13 := hV12.trans hu13 fun _ _ h => h) | (go_at_call 15; refine (cNx.out _ hV13).mono ?_; rintro en w14 ⟨rfl, hu14⟩; have hV14 := hV13.trans hu14 fun _ _ h => h) | (go_at_call 14; refine (cEy.out _ hV14).mono ?_; rintro en w15 ⟨rfl, hu15⟩; have hV15 := hV14.trans hu15 fun _ _ h => h) | (go_at_call 14; refine (cEx.out _ hV15).mono ?_; rintro en w16 ⟨rfl, hu16⟩; have hV16 := hV15.trans hu16 fun _ _ h => h) | (go_at_call 7; refine (hlv.out _).mono ?_; rintro en w17 ⟨rfl, hu17⟩; have hV17 := hV16.trans hu17 fun _ _ h => h)); (try go_wp2_with fail); refine hK.out _ _ (by (try dsimp only); try trivial) (fun hHeld => ?_); clear hK K; (try simp only [Act.put, List.setIfInBounds_toArray, List.set_cons_zero, List.set_cons_succ]))
            (refine wpAnyH_ready (rs := [26]) (by kernel_rfl) (by simp) ?_; refine AllReadyH.cons (o := ?oo_1_26) ?hoo_1_26 ?hst_1_26 AllReadyH.nil; (case hoo_1_26 => (simp only [List.getElem?_toArray, List.getElem?_cons_succ, List.getElem?_cons_zero]; rfl)); intro K hK; go_simp; (first | (go_at_call 12; refine (cRy.out _ (Upd.drew Non w10)).mono ?_; rintro en w11 ⟨vr, rfl, hvr, hu11⟩; obtain ⟨_, ra, rc, rfl, -⟩ := has_of_owns hvr; have hV11 := (Upd.drew Non w10).trans hu11 fun _ _ h => h) | (go_at_call 13; refine (cSy.out _ ra rc _ hV11 hvr).mono ?_; rintro en w12 ⟨rfl, hu12⟩; have hV12 := hV11.trans hu12 fun _ _ h => h) | (go_at_call 15; refine (cNy.out _ hV12).mono ?_; rintro en w13 ⟨rfl, hu13⟩; have hV13 := hV12.trans hu13 fun _ _ h => h) | (go_at_call 15; refine (cNx.out _ hV13).mono ?_; rintro en w14 ⟨rfl, hu14⟩; have hV14 := hV13.trans hu14 fun _ _ h => h) | (go_at_call 14; refine (cEy.out _ hV14).mono ?_; rintro en w15 ⟨rfl, hu15⟩; have hV15 := hV14.trans hu15 fun _ _ h => h) | (go_at_call 14; refine (cEx.out _ hV15).mono ?_; rintro en w16 ⟨rfl, hu16⟩; have hV16 := hV15.trans hu16 fun _ _ h => h) | (go_at_call 7; refine (hlv.out _).mono ?_; rintro en w17 ⟨rfl, hu17⟩; have hV17 := hV16.trans hu17 fun _ _ h => h)); (try go_wp2_with fail); refine hK.out _ _ (by (try dsimp only); try trivial) (fun hHeld => ?_); clear hK K; (try simp only [Act.put, List.setIfInBounds_toArray, List.set_cons_zero, List.set_cons_succ]))
            (refine wpAnyH_take (i := 27) (oi := ?oi_1_27) (v := ?v_1_27) ?ho_1_27 ?hs_1_27 ?hf_1_27 ?hr_1_27 ?hQ_1_27 ?hy_1_27 ?hS_1_27 ?rest_1_27; (case hr_1_27 => kernel_rfl); (case hf_1_27 => kernel_rfl); (case hs_1_27 => kernel_rfl); (case ho_1_27 => (simp only [List.getElem?_toArray, List.getElem?_cons_succ, List.getElem?_cons_zero]; rfl)); (case hS_1_27 => assumption); (case hQ_1_27 => exact fun _ _ _ h => h); (case hy_1_27 => (refine Or.inl ⟨by rfl, ?_⟩; (intro w hSw; (try dsimp only at hSw); go_simp) <;> with_reducible rfl)); (try simp only [Act.put, List.setIfInBounds_toArray, List.set_cons_zero, List.set_cons_succ]))
            (refine wpAnyH_take (i := 28) (oi := ?oi_1_28) (v := ?v_1_28) ?ho_1_28 ?hs_1_28 ?hf_1_28 ?hr_1_28 ?hQ_1_28 ?hy_1_28 ?hS_1_28 ?rest_1_28; (case hr_1_28 => kernel_rfl); (case hf_1_28 => kernel_rfl); (case hs_1_28 => kernel_rfl); (case ho_1_28 => (simp only [List.getElem?_toArray, List.getElem?_cons_succ, List.getElem?_cons_zero]; rfl)); (case hS_1_28 => assumption); (case hQ_1_28 => exact fun _ _ _ h => h); (case hy_1_28 => (refine Or.inl ⟨by rfl, ?_⟩; (intro w hSw; (try dsimp only at hSw); go_simp) <;> with_reducible rfl)); (try simp only [Act.put, List.setIfInBounds_toArray, List.set_cons_zero, List.set_cons_succ]))
            (refine wpAnyH_take (i := 29) (oi := ?oi_1_29) (v := ?v_1_29) ?ho_1_29 ?hs_1_29 ?hf_1_29 ?hr_1_29 ?hQ_1_29 ?hy_1_29 ?hS_1_29 ?rest_1_29; (case hr_1_29 => kernel_rfl); (case hf_1_29 => kernel_rfl); (case hs_1_29 => kernel_rfl); (case ho_1_29 => (simp only [List.getElem?_toArray, List.getElem?_cons_succ, List.getElem?_cons_zero]; rfl)); (case hS_1_29 => assumption); (case hQ_1_29 => exact fun _ _ _ h => h); (case hy_1_29 => (refine Or.inl ⟨by rfl, ?_⟩; (intro w hSw; (try dsimp only at hSw); go_simp) <;> with_reducible rfl)); (try simp only [Act.put, List.setIfInBounds_toArray, List.set_cons_zero, List.set_cons_succ]))
            (refine wpAnyH_ready (rs := [30]) (by kernel_rfl) (by simp) ?_; refine AllReadyH.cons (o := ?oo_1_30) ?hoo_1_30 ?hst_1_30 AllReadyH.nil; (case hoo_1_30 => (simp only [List.getElem?_toArray, List.getElem?_cons_succ, List.getElem?_cons_zero]; rfl)); intro K hK; go_simp; (first | (go_at_call 12; refine (cRy.out _ (Upd.drew Non w10)).mono ?_; rintro en w11 ⟨vr, rfl, hvr, hu11⟩; obtain ⟨_, ra, rc, rfl, -⟩ := has_of_owns hvr; have hV11 := (Upd.drew Non w10).trans hu11 fun _ _ h => h) | (go_at_call 13; refine (cSy.out _ ra rc _ hV11 hvr).mono ?_; rintro en w12 ⟨rfl, hu12⟩; have hV12 := hV11.trans hu12 fun _ _ h => h) | (go_at_call 15; refine (cNy.out _ hV12).mono ?_; rintro en w13 ⟨rfl, hu13⟩; have hV13 := hV12.trans hu13 fun _ _ h => h) | (go_at_call 15; refine (cNx.out _ hV13).mono ?_; rintro en w14 ⟨rfl, hu14⟩; have hV14 := hV13.trans hu14 fun _ _ h => h) | (go_at_call 14; refine (cEy.out _ hV14).mono ?_; rintro en w15 ⟨rfl, hu15⟩; have hV15 := hV14.trans hu15 fun _ _ h => h) | (go_at_call 14; refine (cEx.out _ hV15).mono ?_; rintro en w16 ⟨rfl, hu16⟩; have hV16 := hV15.trans hu16 fun _ _ h => h) | (go_at_call 7; refine (hlv.out _).mono ?_; rintro en w17 ⟨rfl, hu17⟩; have hV17 := hV16.trans hu17 fun _ _ h => h)); (try go_wp2_with fail); refine hK.out _ _ (by (try dsimp only); try trivial) (fun hHeld => ?_); clear hK K; (try simp only [Act.put, List.setIfInBounds_toArray, List.set_cons_zero, List.set_cons_succ]))
            (refine wpAnyH_take (i := 31) (oi := ?oi_1_31) (v := ?v_1_31) ?ho_1_31 ?hs_1_31 ?hf_1_31 ?hr_1_31 ?hQ_1_31 ?hy_1_31 ?hS_1_31 ?rest_1_31; (case hr_1_31 => kernel_rfl); (case hf_1_31 => kernel_rfl); (case hs_1_31 => kernel_rfl); (case ho_1_31 => (simp only [List.getElem?_toArray, List.getElem?_cons_succ, List.getElem?_cons_zero]; rfl)); (case hS_1_31 => assumption); (case hQ_1_31 => exact fun _ _ _ h => h); (case hy_1_31 => (refine Or.inl ⟨by rfl, ?_⟩; (intro w hSw; (try dsimp only at hSw); go_simp) <;> with_reducible rfl)); (try simp only [Act.put, List.setIfInBounds_toArray, List.set_cons_zero, List.set_cons_succ]))
            (refine wpAnyH_take (i := 32) (oi := ?oi_1_32) (v := ?v_1_32) ?ho_1_32 ?hs_1_32 ?hf_1_32 ?hr_1_32 ?hQ_1_32 ?hy_1_32 ?hS_1_32 ?rest_1_32; (case hr_1_32 => kernel_rfl); (case hf_1_32 => kernel_rfl); (case hs_1_32 => kernel_rfl); (case ho_1_32 => (simp only [List.getElem?_toArray, List.getElem?_cons_succ, List.getElem?_cons_zero]; rfl)); (case hS_1_32 => assumption); (case hQ_1_32 => exact fun _ _ _ h => h); (case hy_1_32 => (refine Or.inl ⟨by rfl, ?_⟩; (intro w hSw; (try dsimp only at hSw); go_simp) <;> with_reducible rfl)); (try simp only [Act.put, List.setIfInBounds_toArray, List.set_cons_zero, List.set_cons_succ]))
            refine wpAnyH_done (by kernel_rfl) ?_ _
            go_wp2_with fail
            go_ret
            exact ⟨rfl, hUw.out.trans hV17 fun _ _ h => h⟩
  · exact found06Out aa ab NA NB ca cb (.slice ak NK ck) e w ha63 hb63 hg
end Go.Proofs.Ytmnoldikimcafaa
