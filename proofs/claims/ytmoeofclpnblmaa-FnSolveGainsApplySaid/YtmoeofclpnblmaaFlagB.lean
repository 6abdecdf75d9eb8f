/- The program's FlagSolve for all inputs, SolvePhases and FlagFind. -/
import Derived.Test.YtmoeofclpnblmaaFlagA
namespace Go.Proofs.Ytmoeofclpnblmaa
open Go.RowKit

theorem FlagPost.base {n : Int} {L M : List (Int × Int)} {F : List Bool} {w w0 : World} {e : Ending} {w' : World} (h : FlagPost n L M F w e w') (hb : Below w0.heap.size w0 w) : FlagPost n L M F w0 e w' := by
  obtain ⟨v, ok, P, h1, h2, h3, h4⟩ := h
  exact ⟨v, ok, P, h1, h2, own_less h3 hb.size, bT hb h4⟩
set_option maxRecDepth 100000 in
set_option maxHeartbeats 4000000 in
theorem FlagSolve_any (A A' A'' : Option Addr) (m c m' c' m'' c'' : Nat) (n : Int) (L M : List (Int × Int)) (F : List Bool) (w : World) (h : Rd w w.heap.size 2 A m c (cp L)) (h' : Rd w w.heap.size 2 A' m' c' (cp M)) (h'' : Rd w w.heap.size 1 A'' m'' c'' (cbo F)) :
    Calls Try.prog 14 #[.int .i64 n, .slice A m c, .slice A' m' c', .slice A'' m'' c''] w (FlagPost n L M F w) := by
  have hml := h''.len
  rw [cbo_length, Nat.mul_one] at hml
  subst hml
  have hbb : ∀ w1, Below (((w.alloc (.cells #[.int .i64 n] 3)).alloc (.cells #[.slice A m c] 23)).alloc (.cells #[.slice A' m' c'] 23)).heap.size (((w.alloc (.cells #[.int .i64 n] 3)).alloc (.cells #[.slice A m c] 23)).alloc (.cells #[.slice A' m' c'] 23)) w1 →
      w1.cell? ⟨w.heap.size, 0, none⟩ = some (.int .i64 n) ∧ w1.cell? ⟨w.heap.size + 1 + 1, 0, none⟩ = some (.slice A' m' c') ∧ w.heap.size + 1 + 1 < w1.heap.size := fun w1 hB1 => by
    obtain ⟨q1, _⟩ := bcell hB1
    have := hB1.size
    refine ⟨(q1 _ _ (by simp; omega)).trans (by simp [go_sem]), (q1 _ _ (by simp)).trans (by simp [go_sem]), ?_⟩
    simp at this; omega
  have HBB := Lib.hid hbb
  clear hbb
  cases hv : Vm.visB n L
  · have H := Lib.hid (Vm.res_no1 (M := M) (F := F) hv)
    go_enter Try.func14, Try.ntmps14
    go_wp2_with fail
    refine (VisValid_any _ _ _ n L _ (h.after (bA (bA (bA (b0 w) _) _) _))).mono ?_
    rintro e w1 ⟨rfl, hB1⟩
    rw [hv]
    obtain ⟨k0, k1, k2⟩ := HBB.out w1 hB1
    go_wp2_with (go_at_call 40; refine (BaseMany_any _ _).mono ?_; rintro e w' ⟨rfl, rfl⟩)
    go_ret2
    exact FlagPost.no H.out (bT (bA (bA (bA (b0 w) _) _) _) hB1)
  · cases hv2 : Vm.visB n M
    · have H := Lib.hid (Vm.res_no2 (L := L) (F := F) hv2)
      go_enter Try.func14, Try.ntmps14
      go_wp2_with fail
      refine (VisValid_any _ _ _ n L _ (h.after (bA (bA (bA (b0 w) _) _) _))).mono ?_
      rintro e w1 ⟨rfl, hB1⟩
      rw [hv]
      obtain ⟨k0, k1, k2⟩ := HBB.out w1 hB1
      go_wp2_with fail
      refine (VisValid_any _ _ _ n M _ ((h'.after (bA (bA (bA (b0 w) _) _) _)).after hB1)).mono ?_
      rintro e w2 ⟨rfl, hB2⟩
      rw [hv2]
      have hB3 := bT hB1 hB2
      obtain ⟨k0, k1, k2⟩ := HBB.out w2 hB3
      go_wp2_with (go_at_call 40; refine (BaseMany_any _ _).mono ?_; rintro e w' ⟨rfl, rfl⟩)
      go_ret2
      exact FlagPost.no H.out (bT (bA (bA (bA (b0 w) _) _) _) hB3)
    · by_cases hF : (F.length : Int) = Vm.bmany n
      · obtain ⟨N, rfl, hL⟩ := Vm.Ok.of hv
        obtain ⟨N', e, hM⟩ := Vm.Ok.of hv2
        obtain rfl : N = N' := by omega
        have := Vm.bmany_nat N ((Vm.manyB_iff _).2 (by have := hL.lo; have := hL.hi; omega))
        exact FlagSolve_ok _ _ _ _ _ _ _ _ _ N L M F w h h' h'' hL hM (by omega)
      · have H := Lib.hid (Vm.res_no3 (L := L) (M := M) hF)
        have hd1 : ((F.length : Int) != Vm.bmany n) = true := by simp [hF]
        have hcap'' := h''.cap
        have hmost'' := h''.most
        clear hF
        go_enter Try.func14, Try.ntmps14
        go_wp2_with fail
        refine (VisValid_any _ _ _ n L _ (h.after (bA (bA (bA (b0 w) _) _) _))).mono ?_
        rintro e w1 ⟨rfl, hB1⟩
        rw [hv]
        obtain ⟨k0, k1, k2⟩ := HBB.out w1 hB1
        go_wp2_with fail
        refine (VisValid_any _ _ _ n M _ ((h'.after (bA (bA (bA (b0 w) _) _) _)).after hB1)).mono ?_
        rintro e w2 ⟨rfl, hB2⟩
        rw [hv2]
        have hB3 := bT hB1 hB2
        clear k0 k1 k2
        obtain ⟨k0, k1, k2⟩ := HBB.out w2 hB3
        go_wp2_with (go_at_call 40; refine (BaseMany_any _ _).mono ?_; rintro e w' ⟨rfl, rfl⟩)
        go_ret2
        exact FlagPost.no H.out (bT (bA (bA (bA (b0 w) _) _) _) hB3)
theorem rep_rd (w : World) (k : Nat) (hk : k ≤ 1000) : Rd (w.alloc (.cells (cbo (List.replicate k false)).toArray 4)) (w.alloc (.cells (cbo (List.replicate k false)).toArray 4)).heap.size 1 (some ⟨w.heap.size, 0, none⟩) k k (cbo (List.replicate k false)) := by
  have := (new_RB w (List.replicate k false)).own (base := w.heap.size) (Nat.le_refl _) (by simpa using hk)
  have := Rd.of_own this
  simpa using this
set_option maxHeartbeats 2000000 in
theorem SolvePhases_any (A A' : Option Addr) (m c m' c' : Nat) (n : Int) (L M : List (Int × Int)) (w : World) (h : Rd w w.heap.size 2 A m c (cp L)) (h' : Rd w w.heap.size 2 A' m' c' (cp M)) :
    Calls Try.prog 17 #[.int .i64 n, .slice A m c, .slice A' m' c'] w (FlagPost n L M (Vm.noF (Vm.bmany n).toNat) w) := by
  obtain ⟨k, hk⟩ := Vm.nat_of (Vm.bmany_nonneg n)
  have hk21 : k ≤ 21 := by have := Vm.bmany_le n; omega
  have hmkB := fun w => makeB w k (by omega)
  have HK := Lib.hid hk
  have hrd := rep_rd w k (by omega)
  rw [hk, Int.toNat_natCast]
  clear hk
  go_enter Try.func17, Try.ntmps17
  go_wp2_with (go_at_call 40; refine (BaseMany_any _ _).mono ?_; rintro e w' ⟨rfl, rfl⟩; rw [HK.out])
  refine (FlagSolve_any _ _ _ _ _ _ _ _ _ n L M (List.replicate k false) _ (h.after (bA (b0 w) _)) (h'.after (bA (b0 w) _)) hrd).mono ?_
  rintro e w' ⟨v, ok, P, rfl, hres, hown, hB⟩
  have H : Hid (FlagPost n L M (Vm.noF k) w (.returned (.tuple #[v, .bool ok])) w') := FlagPost.base (w := w.alloc (.cells (cbo (List.replicate k false)).toArray 4)) ⟨v, ok, P, rfl, hres, hown, hB⟩ (bA (b0 w) _)
  clear hres hown hB hrd hmkB
  go_wp2_with fail
  go_ret2
  exact H.out
def FindPost (n : Int) (L M : List (Int × Int)) (w : World) (e : Ending) (w' : World) : Prop := ∃ ok x, e = .returned (.tuple #[.int .i64 x, .bool ok]) ∧ Vm.FindRes n L M ok x ∧ Below w.heap.size w w'
theorem find_no1 {n : Int} {L M : List (Int × Int)} (h : Vm.visB n L = false) : Vm.FindRes n L M false 0 := .inr ⟨rfl, rfl, fun _ _ hk => by rw [hk.1] at h; cases h⟩
theorem find_no2 {n : Int} {L M : List (Int × Int)} (h : Vm.visB n M = false) : Vm.FindRes n L M false 0 := .inr ⟨rfl, rfl, fun _ _ hk => by rw [hk.2.1] at h; cases h⟩
theorem one_rd (w : World) (k q : Nat) (hk : k ≤ 1000) : Rd (w.alloc (.cells ((cbo (List.replicate k false)).set q (.bool true)).toArray 4)) (w.alloc (.cells ((cbo (List.replicate k false)).set q (.bool true)).toArray 4)).heap.size 1 (some ⟨w.heap.size, 0, none⟩) k k (cbo (Vm.oneF k q)) := by
  rw [← cbo_set]
  have := (new_RB w ((List.replicate k false).set q true)).own (base := w.heap.size) (Nat.le_refl _) (by simpa using hk)
  have := Rd.of_own this
  simpa [Vm.oneF, Vm.noF] using this
theorem rep_cell (w : World) (k q : Nat) (hq : q < k) : (w.alloc (.cells (cbo (List.replicate k false)).toArray 4)).cell? ⟨w.heap.size, q, none⟩ = some (.bool false) ∧ (w.alloc (.cells (cbo (List.replicate k false)).toArray 4)).frozen? ⟨w.heap.size, q, none⟩ = false := by
  have h1 := (new_RB w (List.replicate k false)).cell (j := q) (by simpa using hq)
  rw [Vm.kf_rep] at h1
  exact ⟨h1, (new_RB w (List.replicate k false)).frozen q⟩
set_option maxHeartbeats 4000000 in
theorem FlagFind_any (A A' : Option Addr) (m c m' c' : Nat) (n : Int) (L M : List (Int × Int)) (w : World) (h : Rd w w.heap.size 2 A m c (cp L)) (h' : Rd w w.heap.size 2 A' m' c' (cp M)) :
    Calls Try.prog 28 #[.int .i64 n, .slice A m c, .slice A' m' c'] w (FindPost n L M w) := by
  have hn := h.len
  rw [cp_length] at hn
  have hmost := h.most
  have hcap := h.cap
  obtain rfl : L.length = m := by omega
  clear hn
  cases hv : Vm.visB n L
  · have H := Lib.hid (find_no1 (M := M) hv)
    go_enter Try.func28, Try.ntmps28
    go_wp2_with fail
    refine (VisValid_any _ _ _ n L _ h).mono ?_
    rintro e w1 ⟨rfl, hB1⟩
    rw [hv]
    go_wp2_with fail
    go_ret2
    exact ⟨_, _, rfl, H.out, hB1⟩
  · cases hv2 : Vm.visB n M
    · have H := Lib.hid (find_no2 (L := L) hv2)
      go_enter Try.func28, Try.ntmps28
      go_wp2_with fail
      refine (VisValid_any _ _ _ n L _ h).mono ?_
      rintro e w1 ⟨rfl, hB1⟩
      rw [hv]
      go_wp2_with fail
      refine (VisValid_any _ _ _ n M _ (h'.after hB1)).mono ?_
      rintro e w2 ⟨rfl, hB2⟩
      rw [hv2]
      go_wp2_with fail
      go_ret2
      exact ⟨_, _, rfl, H.out, bT hB1 hB2⟩
    · have HV := Lib.hid hv
      have HV2 := Lib.hid hv2
      have hl21 : L.length ≤ 21 := by have := ((Vm.visB_iff _ _).1 hv).2.1; have := Vm.bmany_le n; omega
      have hmkB := fun w => makeB w L.length (by omega)
      clear hv hv2
      go_enter Try.func28, Try.ntmps28
      go_wp2_with fail
      refine (VisValid_any _ _ _ n L _ h).mono ?_
      rintro e w1 ⟨rfl, hB1⟩
      rw [HV.out]
      go_wp2_with fail
      refine (VisValid_any _ _ _ n M _ (h'.after hB1)).mono ?_
      rintro e w2 ⟨rfl, hB2⟩
      rw [HV2.out]
      have hB0 := bT hB1 hB2
      clear hB1 hB2
      go_wp2_with fail
      go_loopw [24] (fun v wr => ∃ k : Nat, k ≤ L.length ∧ v = .int .i64 k ∧ Hid (∀ q : Nat, q < k → ¬ Vm.FlagOk n L M (Vm.oneF L.length q)) ∧ Below w.heap.size w wr) (fun v _ => L.length - (intOf v).toNat)
      case atStart => exact ⟨0, Nat.zero_le _, rfl, fun q hq => absurd hq (by omega), hB0⟩
      case round =>
        clear hB0
        obtain ⟨k, hk, rfl, hall, hB⟩ := hrel
        by_cases hlt : k < L.length
        · obtain ⟨ck, fk⟩ := rep_cell wr L.length k hlt
          have hrd := one_rd wr L.length k (by omega)
          go_wp2_with fail
          have hB2 := bA hB (.cells ((cbo (List.replicate L.length false)).set k (.bool true)).toArray 4)
          refine (FlagSolve_any _ _ _ _ _ _ _ _ _ n L M (Vm.oneF L.length k) _ ((h.below hB2).more hB2.size) ((h'.below hB2).more hB2.size) hrd).mono ?_
          rintro e w3 ⟨v, ok, P, rfl, hres, hown, hB3⟩
          have hB4 := bT hB2 hB3
          clear hown hrd ck fk hB2 hB3
          cases ok
          · have hno : Hid (∀ q : Nat, q < k + 1 → ¬ Vm.FlagOk n L M (Vm.oneF L.length q)) := fun q hq => by
              rcases hres with ⟨h0, _⟩ | ⟨_, h0, _⟩
              · cases h0
              · by_cases e : q = k
                · subst e; exact h0
                · exact hall.out q (by omega)
            clear hres
            go_wp2_with fail
            go_roundw
            case rel => exact ⟨k + 1, by omega, by go_num, hno, hB4⟩
            case measure => simp [intOf]; omega
          · have hyes : Hid (Vm.FindRes n L M true k) := by
              rcases hres with ⟨_, h0, _⟩ | ⟨h0, _⟩
              · exact .inl ⟨rfl, k, rfl, hlt, h0, hall.out⟩
              · cases h0
            clear hres
            go_wp2_with fail
            go_ret2
            exact ⟨_, _, rfl, hyes.out, hB4⟩
        · have hke : k = L.length := by omega
          have hyes : Hid (Vm.FindRes n L M false 0) := .inr ⟨rfl, rfl, fun q hq => hall.out q (by omega)⟩
          go_wp2_with fail
          go_ret2
          exact ⟨_, _, rfl, hyes.out, hB⟩

end Go.Proofs.Ytmoeofclpnblmaa
