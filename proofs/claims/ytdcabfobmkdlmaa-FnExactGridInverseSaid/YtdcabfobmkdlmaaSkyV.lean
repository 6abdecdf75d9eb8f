/- Contracts: skies and grids that are valid; the transform of a sky. -/
import Derived.Test.YtdcabfobmkdlmaaTrans
namespace Go.Proofs.Ytdcabfobmkdlmaa
open Go.RowKit

def skyB (L : List Int) : Bool := decide (L.length = 16) && L.all (inR · 100000)
def gridB (L : List (Int × Int)) : Bool := decide (L.length = 16) && L.all gaussB
theorem skyB_len {L : List Int} (h : skyB L = true) : L.length = 16 := by simp [skyB] at h; exact h.1
theorem skyB_all {L : List Int} (h : skyB L = true) : L.all (inR · 100000) = true := by simp only [skyB, Bool.and_eq_true] at h; exact h.2
theorem gridB_len {L : List (Int × Int)} (h : gridB L = true) : L.length = 16 := by simp [gridB] at h; exact h.1
theorem gridB_all {L : List (Int × Int)} (h : gridB L = true) : L.all gaussB = true := by simp only [gridB, Bool.and_eq_true] at h; exact h.2

set_option maxHeartbeats 400000 in
theorem SkyValid_any (A : Option Addr) (n c : Nat) (L : List Int) (w : World) (h : Rd w w.heap.size 1 A n c (ci L)) :
    Calls Try.prog 34 #[.slice A n c] w fun e w' => e = .returned (.bool (skyB L)) ∧ w = w' := by
  have hn := h.len
  rw [ci_length, Nat.mul_one] at hn
  have hm := h.most
  have hcap := h.cap
  subst hn
  by_cases hl : L.length = 16
  · have H := Lib.hid (show skyB L = L.all (inR · 100000) by simp [skyB, hl])
    have hd : ((L.length : Int) == 16) = true := by simp; omega
    clear hl
    go_enter Try.func34, Try.ntmps34
    go_wp2_with (go_at_call 57; refine (allInRange_any _ _ _ L _ _ h (by omega) (by omega)).mono ?_; rintro e w' ⟨rfl, rfl⟩)
    go_ret
    exact ⟨ret_bool H.out.symm, rfl⟩
  · have H := Lib.hid (show skyB L = false by simp [skyB, hl])
    have hd : ((L.length : Int) == 16) = false := by simp; omega
    clear hl
    go_enter Try.func34, Try.ntmps34
    go_wp2
    go_ret
    exact ⟨ret_bool H.out.symm, rfl⟩
set_option maxHeartbeats 400000 in
theorem GridValid_any (A : Option Addr) (n c : Nat) (L : List (Int × Int)) (w : World) (h : Rd w w.heap.size 2 A n c (cp L)) :
    Calls Try.prog 23 #[.slice A n c] w fun e w' => e = .returned (.bool (gridB L)) ∧ Below w.heap.size w w' := by
  have hn := h.len
  rw [cp_length] at hn
  have hm := h.most
  have hcap := h.cap
  obtain rfl : L.length = n := by omega
  clear hn
  by_cases hl : L.length = 16
  · have H := Lib.hid (show gridB L = L.all gaussB by simp [gridB, hl])
    have hd : ((L.length : Int) == 16) = true := by simp; omega
    clear hl
    go_enter Try.func23, Try.ntmps23
    go_wp2_with (go_at_call 50; refine (allGauss_any _ _ _ L _ h).mono ?_; rintro e w' ⟨rfl, hb⟩)
    go_ret
    exact ⟨ret_bool H.out.symm, hb⟩
  · have H := Lib.hid (show gridB L = false by simp [gridB, hl])
    have hd : ((L.length : Int) == 16) = false := by simp; omega
    clear hl
    go_enter Try.func23, Try.ntmps23
    go_wp2
    go_ret
    exact ⟨ret_bool H.out.symm, b0 _⟩
set_option maxHeartbeats 400000 in
theorem l21Cells_any (w : World) : Calls Try.prog 40 #[] w fun e w' => e = .returned (.int .i64 16) ∧ w = w' := by
  go_enter Try.func40, Try.ntmps40
  go_wp2
  go_ret
  exact ⟨rfl, rfl⟩
set_option maxHeartbeats 400000 in
theorem sSkyValid_any (A : Option Addr) (n c : Nat) (L : List Int) (w : World) (h : Rd w w.heap.size 1 A n c (ci L)) :
    Calls Try.prog 39 #[.slice A n c] w fun e w' => e = .returned (.bool (skyB L)) ∧ w = w' := by
  have hn := h.len
  rw [ci_length, Nat.mul_one] at hn
  have hm := h.most
  have hcap := h.cap
  subst hn
  go_enter Try.func39, Try.ntmps39
  go_wp2
  go_loop [3] (fun i => ∃ k : Nat, k ≤ L.length ∧ i = .int .i64 k ∧ Hid ((L.take k).all (inR · 100000) = true)) (fun i => L.length - (intOf i).toNat)
  case atStart => exact ⟨0, Nat.zero_le _, rfl, by simp [Hid]⟩
  case round =>
    obtain ⟨k, hk, rfl, hall⟩ := hrel
    by_cases hlt : k < L.length
    · obtain ⟨b, off, rfl, hb, hc⟩ := h.int_at hlt
      cases hin : in3 L[k] (-100000) 100000
      · have H := Lib.hid (show skyB L = false by
          rw [in3_inR] at hin
          simp [skyB, all_false_of (inR · 100000) L k hlt hin])
        go_wp2_with (go_at_call 59; refine (l6In_any _ _ _ _).mono ?_; rintro e w' ⟨rfl, rfl⟩)
        go_ret
        exact ⟨ret_bool H.out.symm, rfl⟩
      · have H := Lib.hid (show (L.take (k + 1)).all (inR · 100000) = true by rw [in3_inR] at hin; rw [all_take_succ (inR · 100000) L k hlt, hall.out, hin]; rfl)
        go_wp2_with (go_at_call 59; refine (l6In_any _ _ _ _).mono ?_; rintro e w' ⟨rfl, rfl⟩)
        go_round
        case rel => exact ⟨k + 1, by omega, by go_num, H⟩
        case measure => simp [intOf]; omega
    · have H := Lib.hid (show skyB L = ((L.length : Int) == 16) by
        have := hall.out
        rw [List.take_of_length_le (Nat.le_of_not_lt hlt)] at this
        rw [skyB, this, Bool.and_true, Bool.eq_iff_iff]; simp; omega)
      go_wp2_with (go_at_call 40; refine (l21Cells_any _).mono ?_; rintro e w' ⟨rfl, rfl⟩)
      go_ret
      exact ⟨ret_bool H.out.symm, rfl⟩
set_option maxHeartbeats 400000 in
theorem skyChecked_any (A : Option Addr) (n c : Nat) (L : List Int) (w : World) (h : Rd w w.heap.size 1 A n c (ci L)) :
    Calls Try.prog 47 #[.slice A n c] w fun e w' => e = .returned (.tuple #[if skyB L then .slice A n c else .slice none 0 0, .bool (skyB L)]) ∧ w = w' := by
  cases hs : skyB L
  · go_enter Try.func47, Try.ntmps47
    go_wp2_with (go_at_call 34; refine (SkyValid_any _ _ _ L _ h).mono ?_; rintro e w' ⟨rfl, rfl⟩)
    go_ret2
    exact ⟨rfl, rfl⟩
  · go_enter Try.func47, Try.ntmps47
    go_wp2_with (go_at_call 34; refine (SkyValid_any _ _ _ L _ h).mono ?_; rintro e w' ⟨rfl, rfl⟩)
    go_ret2
    exact ⟨rfl, rfl⟩

def cells16 (L : List Int) : Nat → Int := fun j => L.getD j 0
/-- The transform of a sky, or nothing. -/
def skyTr (L : List Int) : List (Int × Int) := if skyB L then (List.range 16).map (Sky.T (Sky.real (cells16 L)) 1) else []
theorem skyTr_ok {L : List Int} (h : skyB L = true) : (List.range 16).map (Sky.Tn (real L).length (fun j => (real L).getD j (0, 0)) 1) = skyTr L := by
  have hl := skyB_len h
  rw [skyTr, if_pos h]
  have h1 : (real L).length = 16 := by simp [real, hl]
  rw [h1]
  apply List.map_congr_left
  intro i _
  refine Sky.Tn_congr 16 _ _ 1 i (fun k hk => ?_)
  simp [real, Sky.real, cells16, hl, hk]
theorem real_ok {L : List Int} (h : skyB L = true) : (real L).all gaussB = true := by
  have h2 := skyB_all h
  rw [List.all_eq_true] at h2 ⊢
  intro p hp
  simp only [real, List.mem_map] at hp
  obtain ⟨x, hx, rfl⟩ := hp
  have := (inR_iff x 100000).1 (h2 x hx)
  rw [gaussB_iff]
  simp only
  omega
theorem own_len {w : World} {base size n n' : Nat} {e : TypeId} {v : Value} {xs : List Value} (h : w.ownsRow base e size v n xs) (hn : n = n') : w.ownsRow base e size v n' xs := hn ▸ h
set_option maxHeartbeats 400000 in
theorem SkyTransform_any (A : Option Addr) (n c : Nat) (L : List Int) (w : World) (h : Rd w w.heap.size 1 A n c (ci L)) :
    Calls Try.prog 11 #[.slice A n c] w fun e w' => ∃ v, e = .returned (.tuple #[v, .bool (skyB L)]) ∧ w'.ownsRow w.heap.size 32 2 v (skyTr L).length (cp (skyTr L)) ∧ Below w.heap.size w w' := by
  cases hs : skyB L
  · have H := Lib.hid (show skyTr L = [] by simp [skyTr, hs])
    go_enter Try.func11, Try.ntmps11
    go_wp2_with (go_at_call 34; refine (SkyValid_any _ _ _ L _ h).mono ?_; rintro e w' ⟨rfl, rfl⟩)
    go_ret2
    exact ⟨_, rfl, by rw [H.out]; exact World.ownsRow_nil _ _ _ _, b0 _⟩
  · have H := Lib.hid (skyTr_ok hs)
    have H2 := Lib.hid (real_ok hs)
    have H3 := Lib.hid (skyB_len hs)
    go_enter Try.func11, Try.ntmps11
    go_wp2_with fail
    refine (SkyValid_any _ _ _ L _ h).mono ?_
    rintro e w' ⟨rfl, rfl⟩
    go_wp2_with fail
    refine (realGrid_any _ _ _ L _ h (by have := H3.out; omega)).mono ?_
    rintro e w1 ⟨v, rfl, hown, hB⟩
    obtain ⟨A1, c1, rfl⟩ := own_form hown
    have hl : (real L).length = L.length := by simp [real]
    have hr := Rd.of_own hown
    have H4 := Lib.hid hl
    clear hl
    go_wp2_with fail
    refine (transform_any _ _ _ (real L) 1 _ hr (by have := H3.out; have := H4.out; omega) (by omega) (by omega) H2.out).mono ?_
    rintro e w2 ⟨v, rfl, hown2, hB2⟩
    obtain ⟨A2, c2, rfl⟩ := own_form hown2
    go_wp2_with fail
    go_ret2
    refine ⟨_, rfl, ?_, bT hB hB2⟩
    have e16 : (skyTr L).length = 16 := by rw [← H.out]; simp
    rw [H.out] at hown2
    exact own_len (own_less hown2 hB.size) e16.symm
set_option maxHeartbeats 400000 in
theorem SkySum_any (A : Option Addr) (n c : Nat) (L : List Int) (w : World) (h : Rd w w.heap.size 1 A n c (ci L)) (hs : skyB L = true) :
    Calls Try.prog 22 #[.slice A n c] w fun e w' => e = .returned (.tuple #[.int .i64 (Sky.S 16 (cells16 L)), .bool true]) ∧ w = w' := by
  have hn := h.len
  rw [ci_length, Nat.mul_one] at hn
  have hm := h.most
  have hcap := h.cap
  subst hn
  have HL := Lib.hid (skyB_len hs)
  have hl16 : L.length ≤ 16 := by have := HL.out; omega
  have HS := Lib.hid hs
  go_enter Try.func22, Try.ntmps22
  go_wp2_with fail
  refine (SkyValid_any _ _ _ L _ h).mono ?_
  rintro e w' ⟨rfl, rfl⟩
  go_wp2
  go_loop [4, 12] (fun t i => ∃ k : Nat, k ≤ L.length ∧ i = .int .i64 k ∧ t = .int .i64 (Sky.S k (cells16 L))) (fun _ i => L.length - (intOf i).toNat)
  case atStart => exact ⟨0, Nat.zero_le _, rfl, rfl⟩
  case round =>
    obtain ⟨k, hk, rfl, rfl⟩ := hrel
    by_cases hlt : k < L.length
    · obtain ⟨b, off, rfl, hb, hc⟩ := h.int_at hlt
      have hbd := Sky.S_bound k (cells16 L) 100000 (fun j hj => by
        have hjl : j < L.length := by omega
        have := (inR_iff L[j] 100000).1 (List.all_eq_true.1 (skyB_all HS.out) _ (List.getElem_mem hjl))
        simpa [cells16, hjl] using this)
      have hx := (inR_iff L[k] 100000).1 (List.all_eq_true.1 (skyB_all HS.out) _ (List.getElem_mem hlt))
      obtain ⟨hb1, hb2⟩ := hbd
      obtain ⟨hx1, hx2⟩ := hx
      have hk16 : (k : Int) * 100000 ≤ 1600000 := by omega
      have H := Lib.hid (show Sky.S (k + 1) (cells16 L) = Sky.S k (cells16 L) + L[k] by simp [Sky.S, cells16, hlt])
      go_wp2
      go_round
      case rel => exact ⟨k + 1, by omega, by go_num, by rw [H.out]⟩
      case measure => simp [intOf]; omega
    · have he : k = 16 := by have := HL.out; omega
      subst he
      go_wp2
      go_ret2
      exact ⟨rfl, rfl⟩

end Go.Proofs.Ytdcabfobmkdlmaa
