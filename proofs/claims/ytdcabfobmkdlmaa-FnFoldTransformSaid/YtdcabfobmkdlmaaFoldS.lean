/- Contracts: the reference's folding: the walk. -/
import Derived.Test.YtdcabfobmkdlmaaFold3
import Derived.Test.YtdcabfobmkdlmaaSpecA
namespace Go.Proofs.Ytdcabfobmkdlmaa
open Go.RowKit

theorem fo3_bd {L M : List Int} (h : skyB L = true) (h' : skyB M = true) (k l x : Nat) (hk : k ≤ 16) (hl : l ≤ 16) : -200000000000 ≤ fo3 (cells16 L) (cells16 M) k l x ∧ fo3 (cells16 L) (cells16 M) k l x ≤ 200000000000 := by
  have h1 := foldn_bd h h' k x hk
  have a1 := cells_bd h k
  have a2 := shn_bd l (cells16 M) k x (by omega) 100000 (by omega) (fun l _ => cells_bd h' l)
  have h2 := mul_bd a1.1 a1.2 a2.1 a2.2
  simp only [Int.reduceMul, Int.reduceNeg] at h2
  unfold fo3
  omega
theorem at2_int (k l : Nat) : 4 * (((k : Int) / 4 + (l : Int) / 4) % 4) + ((k : Int) % 4 + (l : Int) % 4) % 4 = (Sky.at2 k l : Nat) := by unfold Sky.at2; omega
def foRel (L M : List Int) (k : Nat) (w : World) (v : Value) (wr : World) : Prop :=
  ∃ (l : Nat) (X : List Int), l ≤ 16 ∧ v = .int .i64 l ∧ Hid (foM X (cells16 L) (cells16 M) k l) ∧ wr.ownsRow w.heap.size 3 1 (.slice (some ⟨w.heap.size, 0, none⟩) 16 16) 16 (ci X) ∧ Below w.heap.size w wr
def foRelO (L M : List Int) (w : World) (v : Value) (wr : World) : Prop :=
  ∃ (k : Nat) (X : List Int), k ≤ 16 ∧ v = .int .i64 k ∧ Hid (foM X (cells16 L) (cells16 M) k 0) ∧ wr.ownsRow w.heap.size 3 1 (.slice (some ⟨w.heap.size, 0, none⟩) 16 16) 16 (ci X) ∧ Below w.heap.size w wr
set_option maxHeartbeats 1600000 in
theorem l21Fold_any (A A' : Option Addr) (c c' : Nat) (L M : List Int) (w : World) (h : Rd w w.heap.size 1 A 16 c (ci L)) (h' : Rd w w.heap.size 1 A' 16 c' (ci M)) (hs : skyB L = true) (hs' : skyB M = true) :
    Calls Try.prog 49 #[.slice A 16 c, .slice A' 16 c'] w fun e w' => ∃ v, e = .returned v ∧ w'.ownsRow w.heap.size 3 1 v 16 (ci (foldL L M 16)) ∧ Below w.heap.size w w' := by
  have HL := Lib.hid (skyB_len hs)
  have HL' := Lib.hid (skyB_len hs')
  have HS := Lib.hid hs
  have HS' := Lib.hid hs'
  clear hs hs'
  have hmk := make16I
  go_enter Try.func49, Try.ntmps49
  go_wp2_with (go_at_call 40; refine (l21Cells_16 _).mono ?_; rintro e w' ⟨rfl, rfl⟩)
  go_loopw [6] (fun v wr => foRelO L M w v wr) (fun v _ => 16 - (intOf v).toNat)
  case atStart => exact ⟨0, z16, Nat.zero_le _, rfl, foM_zero _ _, World.ownsRow_lit _ _ 16 (Nat.le_refl _) (by decide) (by decide), bA (b0 w) _⟩
  case round =>
    obtain ⟨k, X, hk, rfl, hX, hown, hB⟩ := hrel
    by_cases hlt : k < 16
    · have hd : decide ((k : Int) < 16) = true := by simp; omega
      go_wp2_with (go_at_call 40; refine (l21Cells_16 _).mono ?_; rintro e w' ⟨rfl, rfl⟩)
      go_loopw [7, 8] (fun v _ wr => foRel L M k w v wr) (fun v _ _ => 16 - (intOf v).toNat)
      case atStart => exact ⟨0, X, Nat.zero_le _, rfl, hX, hown, hB⟩
      case round =>
        clear hX hown hB X
        obtain ⟨l, X, hl, rfl, hX, hown, hB⟩ := hrel
        by_cases hlt2 : l < 16
        · have hd2 : decide ((l : Int) < 16) = true := by simp; omega
          have hkl : k < L.length := by rw [HL.out]; exact hlt
          have hkl' : l < M.length := by rw [HL'.out]; exact hlt2
          obtain ⟨b1, o1, rfl, hb1, hc1⟩ := (h.below hB).int_at hkl
          obtain ⟨b2, o2, rfl, hb2, hc2⟩ := (h'.below hB).int_at hkl'
          have x1 := cells_bd HS.out k
          have x2 := cells_bd HS'.out l
          have e1 : cells16 L k = L[k] := by simp [cells16, hkl]
          have e2 : cells16 M l = M[l] := by simp [cells16, hkl']
          have e3 := at2_int k l
          have q0 := Sky.at2_lt k l
          have x3 := fo3_bd HS.out HS'.out k l (Sky.at2 k l) (by omega) (by omega)
          have hXq := hX.out.2 _ q0
          have hXn := fun y => foM_set hX.out y
          have hXl := hX.out.1
          obtain ⟨q, hq⟩ : ∃ q, Sky.at2 k l = q := ⟨_, rfl⟩
          rw [hq] at e3 q0 x3 hXq hXn
          obtain ⟨f, hf⟩ : ∃ f, fo3 (cells16 L) (cells16 M) k l q = f := ⟨_, rfl⟩
          rw [hf] at x3 hXq hXn
          rw [e1] at x1 hXn
          rw [e2] at x2 hXn
          obtain ⟨x, hx⟩ : ∃ x, L[k] = x := ⟨_, rfl⟩
          obtain ⟨y, hy⟩ : ∃ y, M[l] = y := ⟨_, rfl⟩
          rw [hx] at hc1 x1 hXn
          rw [hy] at hc2 x2 hXn
          have HXN := Lib.hid (hXn (f + x * y) rfl)
          clear hXn hx hy e1 e2 hf hq
          obtain ⟨x11, x12⟩ := x1
          obtain ⟨x21, x22⟩ := x2
          obtain ⟨x31, x32⟩ := x3
          have hp := mul_bd x11 x12 x21 x22
          simp only [Int.reduceMul, Int.reduceNeg] at hp
          obtain ⟨hp1, hp2⟩ := hp
          have hqX : q < X.length := by omega
          have hcell := (hown.cellAt q (by omega)).trans (show (ci X)[q]? = some (.int .i64 f) by simp [ci, hXq])
          have hfr := hown.frozenAt q
          have E3 := Lib.hid e3
          have hi0 : (0 : Int) ≤ (q : Int) := by omega
          have hi1 : (q : Int) < 16 := by omega
          have hk0 : (0 : Int) ≤ (k : Int) := by omega
          have hk1 : (k : Int) < 16 := by omega
          have hl0 : (0 : Int) ≤ (l : Int) := by omega
          have hl1 : (l : Int) < 16 := by omega
          clear e3 hXl hXq
          go_wp2_with first
            | (go_at_call 40; refine (l21Cells_16 _).mono ?_; rintro e w' ⟨rfl, rfl⟩)
            | (go_at_call 64; refine (l21At_any _ _ _).mono ?_; rintro e w' ⟨rfl, rfl⟩; rw [E3.out])
          go_region
          all_goals
            have hown2 := (hown.stored q (.int .i64 (f + x * y))).1
            rw [← ci_set] at hown2
            go_wp2
            go_roundw
            case rel => exact ⟨l + 1, _, by omega, by go_num, HXN, hown2.drew, Below.drew (bS (p := ⟨w.heap.size, q, none⟩) hB (Nat.le_refl _) _)⟩
            case measure => simp [intOf]; omega
        · have he : l = 16 := by omega
          subst he
          have HN := Lib.hid (foM_next hX.out)
          go_wp2_with (go_at_call 40; refine (l21Cells_16 _).mono ?_; rintro e w' ⟨rfl, rfl⟩)
          go_roundw
          case rel => exact ⟨k + 1, X, by omega, by go_num, HN, hown, hB⟩
          case measure => simp [intOf]; omega
    · have HN := Lib.hid (foM_done hX.out (by omega))
      go_wp2_with (go_at_call 40; refine (l21Cells_16 _).mono ?_; rintro e w' ⟨rfl, rfl⟩)
      go_ret
      exact ⟨_, rfl, by rw [← HN.out]; exact hown, hB⟩

set_option maxHeartbeats 1000000 in
theorem sSkyFold_any (A A' : Option Addr) (n c n' c' : Nat) (L M : List Int) (w : World) (h : Rd w w.heap.size 1 A n c (ci L)) (h' : Rd w w.heap.size 1 A' n' c' (ci M)) :
    Calls Try.prog 19 #[.slice A n c, .slice A' n' c'] w fun e w' => ∃ v, e = .returned (.tuple #[v, .bool (skyFoB L M)]) ∧ w'.ownsRow w.heap.size 3 1 v (skyFo L M).length (ci (skyFo L M)) ∧ Below w.heap.size w w' := by
  have hno : ∀ (w1 w2 : World), w2 = w1.alloc (.cells #[] 3) → Below w.heap.size w w1 → skyFoB L M = false → w2.ownsRow w.heap.size 3 1 (.slice (some ⟨w1.heap.size, 0, none⟩) 0 0) (skyFo L M).length (ci (skyFo L M)) := fun w1 w2 e hB hf => by
    subst e
    have : skyFo L M = [] := by simp [skyFo, hf]
    rw [this]
    exact World.ownsRow_lit w1 #[] 0 hB.size (by decide) rfl
  cases hs : skyB L
  · have e0 : skyFoB L M = false := by simp [skyFoB, hs]
    rw [e0]
    have H := Lib.hid (hno w _ rfl (b0 w) e0)
    clear e0 hno
    go_enter Try.func19, Try.ntmps19
    go_wp2_with fail
    refine (sSkyValid_any _ _ _ L _ h).mono ?_
    rintro e w' ⟨rfl, rfl⟩
    rw [hs]
    go_wp2_with fail
    go_ret2
    exact ⟨_, rfl, H.out, bA (b0 w) _⟩
  · cases hs' : skyB M
    · have e0 : skyFoB L M = false := by simp [skyFoB, hs']
      rw [e0]
      have H := Lib.hid (hno w _ rfl (b0 w) e0)
      have HS := Lib.hid hs
      clear e0 hno hs
      go_enter Try.func19, Try.ntmps19
      go_wp2_with fail
      refine (sSkyValid_any _ _ _ L _ h).mono ?_
      rintro e w' ⟨rfl, rfl⟩
      rw [HS.out]
      go_wp2_with fail
      refine (sSkyValid_any _ _ _ M _ h').mono ?_
      rintro e w' ⟨rfl, rfl⟩
      rw [hs']
      go_wp2_with fail
      go_ret2
      exact ⟨_, rfl, H.out, bA (b0 w) _⟩
    · have hn := h.len
      rw [ci_length, Nat.mul_one, skyB_len hs] at hn
      subst hn
      have hn' := h'.len
      rw [ci_length, Nat.mul_one, skyB_len hs'] at hn'
      subst hn'
      have HS := Lib.hid hs
      have HS' := Lib.hid hs'
      have e0 : skyFoB L M = skyB (foldL L M 16) := by simp [skyFoB, hs, hs']
      have HF := Lib.hid e0
      rw [e0]
      clear e0 hs hs'
      go_enter Try.func19, Try.ntmps19
      go_wp2_with fail
      refine (sSkyValid_any _ _ _ L _ h).mono ?_
      rintro e w' ⟨rfl, rfl⟩
      rw [HS.out]
      go_wp2_with fail
      refine (sSkyValid_any _ _ _ M _ h').mono ?_
      rintro e w' ⟨rfl, rfl⟩
      rw [HS'.out]
      go_wp2_with fail
      refine (l21Fold_any A A' c c' L M _ h h' HS.out HS'.out).mono ?_
      rintro e w1 ⟨v, rfl, hown, hB⟩
      obtain ⟨A1, c1, rfl⟩ := own_form hown
      go_wp2_with fail
      refine (sSkyValid_any _ _ _ (foldL L M 16) _ (Rd.of_own hown)).mono ?_
      rintro e w' ⟨rfl, rfl⟩
      cases hf : skyB (foldL L M 16)
      · have H := Lib.hid (hno _ _ rfl hB (by rw [HF.out, hf]))
        clear hno hown
        go_wp2_with fail
        go_ret2
        exact ⟨.slice (some ⟨w1.heap.size, 0, none⟩) 0 0, by rw [hf]; rfl, H.out, bA hB _⟩
      · have H := Lib.hid (show skyFo L M = foldL L M 16 by simp [skyFo, HF.out, hf])
        clear hno hown
        go_wp2_with fail
        refine (l21Fold_any A A' c c' L M _ (h.after hB) (h'.after hB) HS.out HS'.out).mono ?_
        rintro e w2 ⟨v2, rfl, hown2, hB2⟩
        obtain ⟨A2, c2, rfl⟩ := own_form hown2
        go_wp2_with fail
        go_ret2
        exact ⟨.slice A2 16 c2, by rw [hf]; rfl, by rw [H.out, foldL_len]; exact own_less hown2 hB.size, bT hB hB2⟩

end Go.Proofs.Ytdcabfobmkdlmaa
