/- VisPoint of the program for all inputs; of the reference. Written by pointsgen.py. -/
import Derived.Test.YtjpklbkeofjppaaPointA
import Derived.Test.YtjpklbkeofjppaaMkN
namespace Go.Proofs.Ytjpklbkeofjppaa
open Go.RowKit

theorem PtPost.no {L : List (Int × Int)} {d : Int × Int} {amp : Int} {w w' : World} (h : Vm.ptB L d amp = false) (hB : Below w.heap.size w w') : PtPost L d amp w (.returned (.tuple #[.slice none 0 0, .bool false])) w' :=
  ⟨_, by rw [h], by rw [Vm.ptL_no h]; exact World.ownsRow_nil _ _ _ _, hB⟩
set_option maxHeartbeats 4000000 in
theorem VisPoint_any (A : Option Addr) (n c : Nat) (L : List (Int × Int)) (d : Int × Int) (amp : Int) (w : World) (h : Rd w w.heap.size 2 A n c (cp L)) :
    Calls Try.prog 32 #[.slice A n c, gv d, .int .i64 amp] w (PtPost L d amp w) := by
  cases hs : Vm.ptB L d amp
  · have H := Lib.hid hs
    obtain ⟨da, db⟩ := d
    have hpb0 := PB.new A n c da db amp w
    have hcase : Vm.arrB L = false ∨ (Vm.arrB L = true ∧ Vm.plB (da, db) = false) ∨ (Vm.arrB L = true ∧ Vm.plB (da, db) = true ∧ (amp < 1 ∨ (1 ≤ amp ∧ 1000000 < amp))) := by
      cases h1 : Vm.arrB L
      · exact .inl rfl
      · cases h2 : Vm.plB (da, db)
        · exact .inr (.inl ⟨rfl, rfl⟩)
        · refine .inr (.inr ⟨rfl, rfl, ?_⟩)
          simp [Vm.ptB, h1, h2] at hs
          omega
    unfold gv
    clear hs
    rcases hcase with ha | ⟨ha, hd⟩ | ⟨ha, hd, hamp⟩
    · have HA := Lib.hid ha
      clear ha
      go_enter Try.func32, Try.ntmps32
      go_wp2_with fail
      refine (ArrayValid_any _ _ _ L _ (h.after (bA (bA (bA (b0 w) _) _) _))).mono ?_
      rintro e w1 ⟨rfl, hB1⟩
      rw [HA.out]
      go_wp2_with fail
      go_ret2
      exact PtPost.no H.out (bT (bA (bA (bA (b0 w) _) _) _) hB1)
    · have HA := Lib.hid ha
      have HD := Lib.hid hd
      clear ha hd
      go_enter Try.func32, Try.ntmps32
      go_wp2_with fail
      refine (ArrayValid_any _ _ _ L _ (h.after (bA (bA (bA (b0 w) _) _) _))).mono ?_
      rintro e w1 ⟨rfl, hB1⟩
      rw [HA.out]
      obtain ⟨k0, k1, k2, k3, k4⟩ := (hpb0.after hB1).cells
      go_wp2_with fail
      refine (isPlace_any (da, db) _).mono ?_
      rintro e w2 ⟨rfl, hB2⟩
      rw [HD.out]
      go_wp2_with fail
      go_ret2
      exact PtPost.no H.out (bT (bA (bA (bA (b0 w) _) _) _) (bT hB1 hB2))
    · have HA := Lib.hid ha
      have HD := Lib.hid hd
      clear ha hd
      rcases hamp with h1 | ⟨h1, h2⟩
      all_goals
        go_enter Try.func32, Try.ntmps32
        go_wp2_with fail
        refine (ArrayValid_any _ _ _ L _ (h.after (bA (bA (bA (b0 w) _) _) _))).mono ?_
        rintro e w1 ⟨rfl, hB1⟩
        rw [HA.out]
        obtain ⟨k0, k1, k2, k3, k4⟩ := (hpb0.after hB1).cells
        go_wp2_with fail
        refine (isPlace_any (da, db) _).mono ?_
        rintro e w2 ⟨rfl, hB2⟩
        rw [HD.out]
        clear k0 k1 k2 k3 k4
        obtain ⟨k0, k1, k2, k3, k4⟩ := ((hpb0.after hB1).after hB2).cells
        go_wp2_with fail
        go_ret2
        exact PtPost.no H.out (bT (bA (bA (bA (b0 w) _) _) _) (bT hB1 hB2))
  · exact VisPoint_ok A n c L d amp w h hs
set_option maxHeartbeats 4000000 in
theorem sVisPoint_any (A : Option Addr) (n c : Nat) (L : List (Int × Int)) (d : Int × Int) (amp : Int) (w : World) (h : Rd w w.heap.size 2 A n c (cp L)) :
    Calls Try.prog 33 #[.slice A n c, gv d, .int .i64 amp] w (PtPost L d amp w) := by
  have hn := h.len
  rw [cp_length] at hn
  have hmost := h.most
  have hcap := h.cap
  obtain rfl : L.length = n := by omega
  clear hn
  obtain ⟨da, db⟩ := d
  have hO0 : ((w.alloc (.cells #[.int .i64 da, .int .i64 db] 38)).alloc (.cells #[] 79)).ownsRow w.heap.size 79 2 (.slice (some ⟨w.heap.size + 1, 0, none⟩) 0 0) 0 [] := by
    have := World.ownsRow_lit (base := w.heap.size) (e := 79) (size := 2) (w.alloc (.cells #[.int .i64 da, .int .i64 db] 38)) #[] 0 (by simp) (by decide) rfl
    simpa using this
  have hX0 : Bx ((w.alloc (.cells #[.int .i64 da, .int .i64 db] 38)).alloc (.cells #[] 79)) w.heap.size #[.int .i64 da, .int .i64 db] 38 := (Bx.new w _ _ _ rfl).after (bA (b0 _) _)
  have hB00 := bA (bA (b0 w) (.cells #[.int .i64 da, .int .i64 db] 38)) (.cells #[] 79)
  cases hs : Vm.ptB L (da, db) amp
  · have H := Lib.hid (show ∀ w', Below ((w.alloc (.cells #[.int .i64 da, .int .i64 db] 38)).alloc (.cells #[] 79)).heap.size ((w.alloc (.cells #[.int .i64 da, .int .i64 db] 38)).alloc (.cells #[] 79)) w' → PtPost L (da, db) amp w (.returned (.tuple #[.slice (some ⟨w.heap.size + 1, 0, none⟩) 0 0, .bool false])) w' from fun w' hb => ⟨_, by rw [hs], by rw [Vm.ptL_no hs]; exact own_after hO0 hb, bT hB00 hb⟩)
    clear hO0 hB00
    have hcase : Vm.arrB L = false ∨ (Vm.arrB L = true ∧ Vm.plB (da, db) = false) ∨ (Vm.arrB L = true ∧ Vm.plB (da, db) = true ∧ in3 amp 1 1000000 = false) := by
      cases h1 : Vm.arrB L
      · exact .inl rfl
      · cases h2 : Vm.plB (da, db)
        · exact .inr (.inl ⟨rfl, rfl⟩)
        · refine .inr (.inr ⟨rfl, rfl, ?_⟩)
          cases h3 : in3 amp 1 1000000
          · rfl
          · have := (in3_iff _ _ _).1 h3
            simp [Vm.ptB, h1, h2] at hs
            omega
    unfold gv
    clear hs
    rcases hcase with ha | ⟨ha, hd⟩ | ⟨ha, hd, hamp⟩
    · have HA := Lib.hid ha
      clear ha hX0
      go_enter Try.func33, Try.ntmps33
      go_wp2_with fail
      refine (sArrayValid_any _ _ _ L _ (h.after (bA (bA (b0 w) _) _))).mono ?_
      rintro e w1 ⟨rfl, hB1⟩
      rw [HA.out]
      go_wp2_with fail
      go_ret2
      exact H.out _ hB1
    · have HA := Lib.hid ha
      have HD := Lib.hid hd
      clear ha hd
      go_enter Try.func33, Try.ntmps33
      go_wp2_with fail
      refine (sArrayValid_any _ _ _ L _ (h.after (bA (bA (b0 w) _) _))).mono ?_
      rintro e w1 ⟨rfl, hB1⟩
      rw [HA.out]
      have k0 := (hX0.after hB1).cell 0
      have k1 := (hX0.after hB1).cell 1
      simp only [List.getElem?_toArray, List.getElem?_cons_zero, List.getElem?_cons_succ] at k0 k1
      go_wp2_with fail
      refine (l3Place_any (da, db) _).mono ?_
      rintro e w2 ⟨rfl, hB2⟩
      rw [HD.out]
      go_wp2_with fail
      go_ret2
      exact H.out _ (bT hB1 hB2)
    · have HA := Lib.hid ha
      have HD := Lib.hid hd
      clear ha hd
      go_enter Try.func33, Try.ntmps33
      go_wp2_with fail
      refine (sArrayValid_any _ _ _ L _ (h.after (bA (bA (b0 w) _) _))).mono ?_
      rintro e w1 ⟨rfl, hB1⟩
      rw [HA.out]
      have k0 := (hX0.after hB1).cell 0
      have k1 := (hX0.after hB1).cell 1
      simp only [List.getElem?_toArray, List.getElem?_cons_zero, List.getElem?_cons_succ] at k0 k1
      go_wp2_with fail
      refine (l3Place_any (da, db) _).mono ?_
      rintro e w2 ⟨rfl, hB2⟩
      rw [HD.out]
      go_wp2_with (go_at_call 59; refine (l6In_any _ _ _ _).mono ?_; rintro e w' ⟨rfl, rfl⟩; rw [hamp])
      go_ret2
      exact H.out _ (bT hB1 hB2)
  · obtain ⟨ha, hd, am1, am2⟩ := (Vm.ptB_iff _ _ _).1 hs
    have hOk := Vm.OkP.of hs
    have h2 := hOk.lo
    have h7 := hOk.hi
    have HS := Lib.hid hs
    have HA := Lib.hid ha
    have HD := Lib.hid hd
    have hamp : in3 amp 1 1000000 = true := (in3_iff _ _ _).2 (by omega)
    clear hs ha hd hOk
    obtain ⟨i0, hi, hz0, hz1, hz2⟩ := info_parts infoVis
    unfold gv
    go_enter Try.func33, Try.ntmps33
    go_wp2_with fail
    refine (sArrayValid_any _ _ _ L _ (h.after (bA (bA (b0 w) _) _))).mono ?_
    rintro e w1 ⟨rfl, hB1⟩
    rw [HA.out]
    have hX1 := hX0.after hB1
    have hO1 := own_after hO0 hB1
    have hBB1 := bT hB00 hB1
    clear hX0 hO0 hB00 hB1
    have k0 := hX1.cell 0
    have k1 := hX1.cell 1
    simp only [List.getElem?_toArray, List.getElem?_cons_zero, List.getElem?_cons_succ] at k0 k1
    go_wp2_with fail
    refine (l3Place_any (da, db) _).mono ?_
    rintro e w2 ⟨rfl, hB2⟩
    rw [HD.out]
    have hX2 := hX1.after hB2
    have hO2 := own_after hO1 hB2
    have hBB2 := bT hBB1 hB2
    clear hX1 hO1 hBB1 hB2 k0 k1
    go_wp2_with (go_at_call 59; refine (l6In_any _ _ _ _).mono ?_; rintro e w' ⟨rfl, rfl⟩; rw [hamp])
    clear hamp
    obtain ⟨N, hN⟩ : ∃ N, L.length = N := ⟨_, rfl⟩
    have HN := Lib.hid hN
    rw [hN] at h h2 h7 hcap ⊢
    clear hN
    go_loopw [8, 9] (fun v i wr => ∃ q : Nat, q ≤ N ∧ i = .int .i64 q ∧ wr.ownsRow w.heap.size 79 2 v (mkN N (Vm.bt N q (q + 1)) (Vm.ptF L (da, db) amp)).length (cp (mkN N (Vm.bt N q (q + 1)) (Vm.ptF L (da, db) amp))) ∧ Bx wr w.heap.size #[.int .i64 da, .int .i64 db] 38 ∧ Below w.heap.size w wr) (fun _ i _ => N - (intOf i).toNat)
    case atStart => exact ⟨0, Nat.zero_le _, rfl, by rw [(Vm.bt_zero_all N (by omega)).1, mkN_zero]; exact hO2, hX2, hBB2⟩
    case round =>
      clear hO2 hX2 hBB2
      obtain ⟨q, hq, rfl, hown, hX, hB⟩ := hrel
      by_cases hlt : q < N
      · go_wp2_with fail
        go_loopw [8, 10] (fun v i wr => ∃ r : Nat, q < r ∧ r ≤ N ∧ i = .int .i64 r ∧ wr.ownsRow w.heap.size 79 2 v (mkN N (Vm.bt N q r) (Vm.ptF L (da, db) amp)).length (cp (mkN N (Vm.bt N q r) (Vm.ptF L (da, db) amp))) ∧ Bx wr w.heap.size #[.int .i64 da, .int .i64 db] 38 ∧ Below w.heap.size w wr) (fun _ i _ => N - (intOf i).toNat)
        case atStart => exact ⟨q + 1, by omega, by omega, by go_num, hown, hX, hB⟩
        case round =>
          clear hown hX hB
          obtain ⟨r, hqr, hr, rfl, hown, hX, hB⟩ := hrel
          by_cases hrl : r < N
          · have HM := Lib.hid (mkN_step h7 hqr hrl (Vm.ptF L (da, db) amp))
            have hlen := mkN_len h7 (Vm.bt N q r) (Vm.ptF L (da, db) amp)
            have k0 := hX.cell 0
            have k1 := hX.cell 1
            simp only [List.getElem?_toArray, List.getElem?_cons_zero, List.getElem?_cons_succ] at k0 k1
            have HPT := Lib.hid (show Vm.ptF L (da, db) amp q r = (amp, (Vm.delay L (da, db) r - Vm.delay L (da, db) q) % 360) from rfl)
            go_wp2_with fail
            refine (sDelayPhase_ok A N c L (da, db) q r _ ((h.below hB).more hB.size) HA.out HD.out (by rw [HN.out]; omega) (by rw [HN.out]; omega)).mono ?_
            rintro e w5 ⟨rfl, hB5⟩
            obtain ⟨z, hz⟩ : ∃ z, (Vm.delay L (da, db) r - Vm.delay L (da, db) q) % 360 = z := ⟨_, rfl⟩
            rw [hz] at HPT ⊢
            rw [HPT.out] at HM
            clear hz k0 k1
            have hown5 := (own_after hown hB5).alloc (.cells #[.int .i64 amp, .int .i64 z] 79)
            have hX5 := (hX.after hB5).after (bA (b0 _) (.cells #[.int .i64 amp, .int .i64 z] 79))
            have hB6 := bA (bT hB hB5) (.cells #[.int .i64 amp, .int .i64 z] 79)
            have hsz := (bT hB hB5).size
            clear hown hX hB5 hB
            go_wp2_with (at_builtin; refine wpList_append_own _ rfl _ _ 50 rfl w.heap.size 79 i0 _ 2 16 Try.underlying50 hi hz0 hz1 hz2 rfl (by decide) _ _ _ rfl hown5 ⟨w5.heap.size, 0, none⟩ 1 1 [.int .i64 amp, .int .i64 z] rfl rfl (new_cells _ _ _) ?c2 ?c3 ?c4 ?c5 ?_)
            case c2 => intro u hu; simp at hu; rcases hu with rfl | rfl <;> rfl
            case c3 => unfold maxLen; omega
            case c4 => omega
            case c5 => simp; omega
            intro v' w6 hown' hgrow _
            have hX6 : Bx w6 w.heap.size #[.int .i64 da, .int .i64 db] 38 := (hgrow.block _ hX5.lt (hX5.not_row (by decide) hown5)).trans hX5
            have hB7 := own_below hB6 hown5 hgrow
            clear hown5 hgrow hB6 hX5
            go_wp2_with fail
            go_roundw
            case rel => exact ⟨r + 1, by omega, by omega, by go_num, by rw [HM.out.1, HM.out.2]; exact hown', hX6, hB7⟩
            case measure => simp [intOf]; omega
          · have hre : r = N := by omega
            subst hre
            have HB := Lib.hid (Vm.bt_row_all r (by omega) q hlt)
            go_wp2_with fail
            go_roundw
            case rel => exact ⟨q + 1, by omega, by go_num, by rw [← HB.out]; exact hown, hX, hB⟩
            case measure => simp [intOf]; omega
      · have hqe : q = N := by omega
        subst hqe
        obtain ⟨A', c', rfl⟩ := own_form hown
        have hpl : Vm.ptL L (da, db) amp = mkN q (Vm.bt q q (q + 1)) (Vm.ptF L (da, db) amp) := by rw [Vm.ptL_yes HS.out, mkN_all h7, HN.out]
        have H : Hid (PtPost L (da, db) amp w (.returned (.tuple #[.slice A' (mkN q (Vm.bt q q (q + 1)) (Vm.ptF L (da, db) amp)).length c', .bool true])) wr) := ⟨_, by rw [HS.out], by rw [hpl]; exact hown, hB⟩
        clear hown hB hX hpl
        go_wp2_with fail
        go_ret2
        exact H.out

end Go.Proofs.Ytjpklbkeofjppaa
