/- VisPhases of the program and of the reference. -/
import Derived.Test.YthfljdamahmkaaaDrawC
namespace Go.Proofs.Ythfljdamahmkaaa
open Go.RowKit

def phL (L : List (Int × Int)) : List Int := L.map (·.2)
theorem phL_len (L : List (Int × Int)) : (phL L).length = L.length := by simp [phL]
theorem phL_take (L : List (Int × Int)) (k : Nat) (h : k < L.length) : ci (phL (L.take (k + 1))) = ci (phL (L.take k)) ++ [.int .i64 L[k].2] := by
  rw [List.take_succ_eq_append_getElem h, phL, List.map_append, ci_append]; rfl
def visPh (n : Int) (L : List (Int × Int)) : List Int := if Vm.visB n L then phL L else []
set_option maxHeartbeats 1000000 in
theorem VisPhases_any (A : Option Addr) (m c : Nat) (n : Int) (L : List (Int × Int)) (w : World) (h : Rd w w.heap.size 2 A m c (cp L)) :
    Calls Try.prog 16 #[.int .i64 n, .slice A m c] w fun e w' => ∃ v, e = .returned v ∧ w'.ownsRow w.heap.size 3 1 v (visPh n L).length (ci (visPh n L)) ∧ Below w.heap.size w w' := by
  have hn := h.len
  rw [cp_length] at hn
  have hm := h.most
  have hcap := h.cap
  obtain rfl : L.length = m := by omega
  clear hn
  cases hv : Vm.visB n L
  · have H := Lib.hid (show visPh n L = [] by simp [visPh, hv])
    go_enter Try.func16, Try.ntmps16
    go_wp2_with fail
    refine (VisValid_any _ _ _ n L _ h).mono ?_
    rintro e w1 ⟨rfl, hB1⟩
    rw [hv]
    go_wp2_with fail
    go_ret
    exact ⟨_, rfl, by rw [H.out]; exact World.ownsRow_nil _ _ _ _, hB1⟩
  · have H := Lib.hid (show visPh n L = phL L by simp [visPh, hv])
    have HV := Lib.hid hv
    have hl : L.length ≤ 21 := by
      have := ((Vm.visB_iff _ _).1 hv).2.1
      have := Vm.bmany_le n
      omega
    clear hv
    obtain ⟨i0, hi, hz0, hz1, hz2⟩ := info_parts infoInt
    go_enter Try.func16, Try.ntmps16
    go_wp2_with fail
    refine (VisValid_any _ _ _ n L _ h).mono ?_
    rintro e w1 ⟨rfl, hB1⟩
    rw [HV.out]
    go_wp2_with fail
    go_loopw [5, 14] (fun v i wr => ∃ k : Nat, k ≤ L.length ∧ i = .int .i64 k ∧ wr.ownsRow w.heap.size 3 1 v k (ci (phL (L.take k))) ∧ Below w.heap.size w wr) (fun _ i _ => L.length - (intOf i).toNat)
    case atStart => exact ⟨0, Nat.zero_le _, rfl, World.ownsRow_nil _ _ _ _, hB1⟩
    case round =>
      clear hB1
      obtain ⟨k, hk, rfl, hown, hB⟩ := hrel
      by_cases hlt : k < L.length
      · obtain ⟨b, off, rfl, hb, hc1, hc2⟩ := (h.below hB).pair_at hlt
        have HT := Lib.hid (phL_take L k hlt)
        obtain ⟨p, hp⟩ : ∃ p, L[k] = p := ⟨_, rfl⟩
        rw [hp] at hc1 hc2 HT
        clear hp
        have hown1 := (hown.alloc (.cells #[.int .i64 p.1, .int .i64 p.2] 32)).alloc (.cells #[.int .i64 p.2] 3)
        have hB2 := bA (bA hB (.cells #[.int .i64 p.1, .int .i64 p.2] 32)) (.cells #[.int .i64 p.2] 3)
        have hsz := hB.size
        have hnew := new_cells (wr.alloc (.cells #[.int .i64 p.1, .int .i64 p.2] 32)) #[.int .i64 p.2] 3
        rw [World.size_alloc] at hnew
        have HNEW := Lib.hid hnew
        clear hnew
        go_wp2_with (at_builtin; refine wpList_append_own _ rfl _ _ 26 rfl w.heap.size 3 i0 _ 1 8 Try.underlying26 hi hz0 hz1 hz2 rfl (by decide) _ _ _ rfl hown1 ⟨wr.heap.size + 1, 0, none⟩ 1 1 [.int .i64 p.2] rfl rfl HNEW.out ?c2 ?c3 ?c4 ?c5 ?_)
        case c2 => first | rfl | (intro u hu; simp at hu; subst hu; rfl)
        case c3 => unfold maxLen; omega
        case c4 => omega
        case c5 => first | omega | (simp; omega)
        intro v' w3 hown' hgrow _
        have hB3 := own_below hB2 hown1 hgrow
        clear hown1 hgrow hB2 hown hB
        go_wp2_with fail
        go_roundw
        case rel => exact ⟨k + 1, by omega, by go_num, by rw [HT.out]; exact hown', hB3⟩
        case measure => simp [intOf]; omega
      · have he : k = L.length := by omega
        subst he
        go_wp2_with fail
        go_ret
        exact ⟨_, rfl, by rw [H.out, phL_len]; simpa using hown, hB⟩
set_option maxHeartbeats 1000000 in
theorem sVisPhases_any (A : Option Addr) (m c : Nat) (n : Int) (L : List (Int × Int)) (w : World) (h : Rd w w.heap.size 2 A m c (cp L)) :
    Calls Try.prog 17 #[.int .i64 n, .slice A m c] w fun e w' => ∃ v, e = .returned v ∧ w'.ownsRow w.heap.size 3 1 v (visPh n L).length (ci (visPh n L)) ∧ Below w.heap.size w w' := by
  have hn := h.len
  rw [cp_length] at hn
  have hm := h.most
  have hcap := h.cap
  obtain rfl : L.length = m := by omega
  clear hn
  have hO0 : (w.alloc (.cells #[] 3)).ownsRow w.heap.size 3 1 (.slice (some ⟨w.heap.size, 0, none⟩) 0 0) 0 [] := World.ownsRow_lit w #[] 0 (Nat.le_refl _) (by decide) rfl
  cases hv : Vm.visB n L
  · have H := Lib.hid (show visPh n L = [] by simp [visPh, hv])
    have HV := Lib.hid hv
    clear hv
    by_cases hp : 0 < L.length
    · go_enter Try.func17, Try.ntmps17
      go_wp2_with fail
      refine wp_loop_rounds 1 ?_
      rw [rounds_succ]
      go_wp2_with (go_at_call 42; refine (sVisValid_any _ _ _ n L _ (h.after (bA (b0 w) _))).mono ?_; rintro e w' ⟨rfl, rfl⟩; rw [HV.out])
      go_ret
      exact ⟨_, rfl, by rw [H.out]; exact hO0, bA (b0 w) _⟩
    · have hp0 : ¬ 0 < L.length := hp
      go_enter Try.func17, Try.ntmps17
      go_wp2_with fail
      refine wp_loop_rounds 1 ?_
      rw [rounds_succ]
      go_wp2_with (go_at_call 42; refine (sVisValid_any _ _ _ n L _ (h.after (bA (b0 w) _))).mono ?_; rintro e w' ⟨rfl, rfl⟩; rw [HV.out])
      go_ret
      exact ⟨_, rfl, by rw [H.out]; exact hO0, bA (b0 w) _⟩
  · have H := Lib.hid (show visPh n L = phL L by simp [visPh, hv])
    have HV := Lib.hid hv
    have hl : L.length ≤ 21 := by
      have := ((Vm.visB_iff _ _).1 hv).2.1
      have := Vm.bmany_le n
      omega
    clear hv
    obtain ⟨i0, hi, hz0, hz1, hz2⟩ := info_parts infoInt
    go_enter Try.func17, Try.ntmps17
    go_wp2_with fail
    go_loopw [5, 6] (fun v i wr => ∃ k : Nat, k ≤ L.length ∧ i = .int .i64 k ∧ wr.ownsRow w.heap.size 3 1 v k (ci (phL (L.take k))) ∧ Below w.heap.size w wr) (fun _ i _ => L.length - (intOf i).toNat)
    case atStart => exact ⟨0, Nat.zero_le _, rfl, hO0, bA (b0 w) _⟩
    case round =>
      clear hO0
      obtain ⟨k, hk, rfl, hown, hB⟩ := hrel
      by_cases hlt : k < L.length
      · obtain ⟨b, off, e, hb, hc1, hc2⟩ := (h.below hB).pair_at hlt
        have HT := Lib.hid (phL_take L k hlt)
        obtain ⟨p, hp⟩ : ∃ p, L[k] = p := ⟨_, rfl⟩
        rw [hp] at hc1 hc2 HT
        clear hp
        have hrd := (h.below hB).more hB.size
        subst e
        have hown1 := hown.alloc (.cells #[.int .i64 p.2] 3)
        have hB2 := bA hB (.cells #[.int .i64 p.2] 3)
        have hsz := hB.size
        go_wp2_with (first
          | (go_at_call 42; refine (sVisValid_any _ _ _ n L _ hrd).mono ?_; rintro e w' ⟨rfl, rfl⟩; rw [HV.out])
          | (at_builtin; refine wpList_append_own _ rfl _ _ 26 rfl w.heap.size 3 i0 _ 1 8 Try.underlying26 hi hz0 hz1 hz2 rfl (by decide) _ _ _ rfl hown1 ⟨wr.heap.size, 0, none⟩ 1 1 [.int .i64 p.2] rfl rfl (new_cells _ _ _) ?c2 ?c3 ?c4 ?c5 ?_))
        case c2 => first | rfl | (intro u hu; simp at hu; subst hu; rfl)
        case c3 => unfold maxLen; omega
        case c4 => omega
        case c5 => first | omega | (simp; omega)
        intro v' w3 hown' hgrow _
        have hB3 := own_below hB2 hown1 hgrow
        clear hown1 hgrow hB2 hown hB hrd
        go_wp2_with fail
        go_roundw
        case rel => exact ⟨k + 1, by omega, by go_num, by rw [HT.out]; exact hown', hB3⟩
        case measure => simp [intOf]; omega
      · have he : k = L.length := by omega
        subst he
        go_wp2_with fail
        go_ret
        exact ⟨_, rfl, by rw [H.out, phL_len]; simpa using hown, hB⟩

end Go.Proofs.Ythfljdamahmkaaa
