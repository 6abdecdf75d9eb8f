/- The reference's FlagSolve and FlagFind for all inputs; SolvePhases. Written by flagegen.py. -/
import Derived.Test.YtmoeofclpnblmaaFlagD
namespace Go.Proofs.Ytmoeofclpnblmaa
open Go.RowKit

theorem two_no {n : Int} {L M : List (Int × Int)} {F : List Bool} (h : twoB n L M = false) : Vm.FlagRes n L M F false [] := by
  cases hv : Vm.visB n L
  · exact Vm.res_no1 hv
  · exact Vm.res_no2 (by simpa [twoB, hv] using h)
set_option maxRecDepth 100000 in
set_option maxHeartbeats 2000000 in
theorem sFlagSolve_any (A A' A'' : Option Addr) (m c m' c' m'' c'' : Nat) (n : Int) (L M : List (Int × Int)) (F : List Bool) (w : World) (h : Rd w w.heap.size 2 A m c (cp L)) (h' : Rd w w.heap.size 2 A' m' c' (cp M)) (h'' : Rd w w.heap.size 1 A'' m'' c'' (cbo F)) :
    Calls Try.prog 15 #[.int .i64 n, .slice A m c, .slice A' m' c', .slice A'' m'' c''] w (FlagPost n L M F w) := by
  cases ht : twoB n L M
  · have H := Lib.hid (two_no (F := F) ht)
    go_enter Try.func15, Try.ntmps15
    go_wp2_with (go_at_call 51; refine (l15Two_any _ _ _ _ _ _ n L M _ h h').mono ?_; rintro e w' ⟨rfl, rfl⟩; rw [ht])
    go_ret2
    exact FlagPost.lit H.out (b0 w)
  · obtain ⟨hv, hv2⟩ : Vm.visB n L = true ∧ Vm.visB n M = true := by simpa [twoB] using ht
    cases ho : okF n F
    · have H := Lib.hid (Vm.res_no3 (L := L) (M := M) (n := n) (F := F) (fun hF => by
        have := ((Vm.visB_iff _ _).1 hv).1
        simp [okF, this, hF] at ho))
      clear hv hv2
      go_enter Try.func15, Try.ntmps15
      go_wp2_with (first
        | (go_at_call 51; refine (l15Two_any _ _ _ _ _ _ n L M _ h h').mono ?_; rintro e w' ⟨rfl, rfl⟩; rw [ht])
        | (go_at_call 52; refine (l16Ok_any _ _ _ n F _ h'').mono ?_; rintro e w' ⟨rfl, rfl⟩; rw [ho]))
      go_ret2
      exact FlagPost.lit H.out (b0 w)
    · obtain ⟨N, rfl, hL⟩ := Vm.Ok.of hv
      obtain ⟨N', e, hM⟩ := Vm.Ok.of hv2
      obtain rfl : N = N' := by omega
      have h3 := Vm.bmany_nat N ((Vm.manyB_iff _).2 (by have := hL.lo; have := hL.hi; omega))
      have h4 : (F.length : Int) = Vm.bmany N := by simp [okF] at ho; exact ho.2
      exact sFlagSolve_ok _ _ _ _ _ _ _ _ _ N L M F w h h' h'' hL hM (by omega)
theorem find_len {n : Int} {L M : List (Int × Int)} {F : List Bool} {k : Nat} (hk : Vm.bmany n = k) (h : Vm.FlagOk n L M F) : L.length = k := by
  have := ((Vm.visB_iff _ _).1 h.1).2.1
  omega
set_option maxHeartbeats 4000000 in
theorem sFlagFind_any (A A' : Option Addr) (m c m' c' : Nat) (n : Int) (L M : List (Int × Int)) (w : World) (h : Rd w w.heap.size 2 A m c (cp L)) (h' : Rd w w.heap.size 2 A' m' c' (cp M)) :
    Calls Try.prog 26 #[.int .i64 n, .slice A m c, .slice A' m' c'] w (FindPost n L M w) := by
  obtain ⟨b, hb⟩ := Vm.nat_of (Vm.bmany_nonneg n)
  have hb21 : b ≤ 21 := by have := Vm.bmany_le n; omega
  have hmkB := fun w => makeB w b (by omega)
  have HB := Lib.hid hb
  clear hb
  go_enter Try.func26, Try.ntmps26
  go_wp2
  go_loopw [8] (fun v wr => ∃ k : Nat, k ≤ b ∧ v = .int .i64 k ∧ Hid (∀ q : Nat, q < k → ¬ Vm.FlagOk n L M (Vm.oneF b q)) ∧ Below w.heap.size w wr) (fun v _ => b - (intOf v).toNat)
  case atStart => exact ⟨0, Nat.zero_le _, rfl, fun q hq => absurd hq (by omega), b0 _⟩
  case round =>
    obtain ⟨k, hk, rfl, hall, hB⟩ := hrel
    by_cases hlt : k < b
    · obtain ⟨ck, fk⟩ := rep_cell wr b k hlt
      have hrd := one_rd wr b k (by omega)
      go_wp2_with (go_at_call 46; refine (sBaseMany_any _ _).mono ?_; rintro e w' ⟨rfl, rfl⟩; rw [HB.out])
      have hB2 := bA hB (.cells ((cbo (List.replicate b false)).set k (.bool true)).toArray 4)
      refine (sFlagSolve_any _ _ _ _ _ _ _ _ _ n L M (Vm.oneF b k) _ ((h.below hB2).more hB2.size) ((h'.below hB2).more hB2.size) hrd).mono ?_
      rintro e w3 ⟨v, ok, P, rfl, hres, hown, hB3⟩
      have hB4 := bT hB2 hB3
      clear hown hrd ck fk hB2 hB3
      cases ok
      · have hno : Hid (∀ q : Nat, q < k + 1 → ¬ Vm.FlagOk n L M (Vm.oneF b q)) := fun q hq => by
          rcases hres with ⟨h0, _⟩ | ⟨_, h0, _⟩
          · cases h0
          · by_cases e : q = k
            · subst e; exact h0
            · exact hall.out q (by omega)
        clear hres
        go_wp2_with fail
        go_roundw
        case rel => exact ⟨k + 1, by omega, by go_num, hno, hB4⟩
        case measure => simp [intOf]; omega
      · have hyes : Hid (Vm.FindRes n L M true k) := by
          rcases hres with ⟨_, h0, _⟩ | ⟨h0, _⟩
          · have e := find_len HB.out h0
            subst e
            exact .inl ⟨rfl, k, rfl, hlt, h0, hall.out⟩
          · cases h0
        clear hres
        go_wp2_with fail
        go_ret2
        exact ⟨_, _, rfl, hyes.out, hB4⟩
    · have hyes : Hid (Vm.FindRes n L M false 0) := .inr ⟨rfl, rfl, fun q hq hok => by
        have e := find_len HB.out hok
        subst e
        exact hall.out q (by omega) hok⟩
      go_wp2_with (go_at_call 46; refine (sBaseMany_any _ _).mono ?_; rintro e w' ⟨rfl, rfl⟩; rw [HB.out])
      go_ret2
      exact ⟨_, _, rfl, hyes.out, hB⟩
def signP (z : Int) : Int := if 180 < z then z - 360 else z
def nearP (a b : Int) : Int := if signP ((a - b) % 360) < 0 then -signP ((a - b) % 360) else signP ((a - b) % 360)
theorem nearP_bd (a b : Int) : 0 ≤ nearP a b ∧ nearP a b ≤ 400 := by unfold nearP signP; split <;> split at * <;> omega
theorem nearP_zero {a b : Int} (ha : 0 ≤ a ∧ a < 360) (hb : 0 ≤ b ∧ b < 360) : nearP a b = 0 ↔ b = a := by unfold nearP signP; split <;> split at * <;> omega
set_option maxHeartbeats 400000 in
theorem PhaseSigned_any (z : Int) (w : World) (h1 : 0 ≤ z) (h2 : z < 360) : Calls Try.prog 80 #[.int .i64 z] w fun e w' => e = .returned (.int .i64 (signP z)) ∧ w = w' := by
  have hp : Vm.phB z = true := (Vm.phB_iff _).2 ⟨h1, h2⟩
  by_cases hz : 180 < z
  · have H := Lib.hid (show signP z = z - 360 by unfold signP; rw [if_pos hz])
    go_enter Try.func80, Try.ntmps80
    go_wp2_with (go_at_call 76; refine (l2Phase_any _ _).mono ?_; rintro e w' ⟨rfl, rfl⟩)
    go_ret
    exact ⟨ret_int H.out.symm, rfl⟩
  · have H := Lib.hid (show signP z = z by unfold signP; rw [if_neg hz])
    go_enter Try.func80, Try.ntmps80
    go_wp2_with (go_at_call 76; refine (l2Phase_any _ _).mono ?_; rintro e w' ⟨rfl, rfl⟩)
    go_ret
    exact ⟨ret_int H.out.symm, rfl⟩
set_option maxHeartbeats 400000 in
theorem PhaseNear_any (a b : Int) (w : World) (ha : 0 ≤ a ∧ a < 360) (hb : 0 ≤ b ∧ b < 360) : Calls Try.prog 79 #[.int .i64 a, .int .i64 b] w fun e w' => e = .returned (.int .i64 (nearP a b)) ∧ w = w' := by
  have hp1 : Vm.phB a = true := (Vm.phB_iff _).2 ha
  have hp2 : Vm.phB b = true := (Vm.phB_iff _).2 hb
  obtain ⟨a1, a2⟩ := ha
  obtain ⟨b1, b2⟩ := hb
  obtain ⟨s, hs⟩ : ∃ s, signP ((a - b) % 360) = s := ⟨_, rfl⟩
  have HS := Lib.hid hs
  have sb : -200 ≤ s ∧ s ≤ 200 := by rw [← hs]; unfold signP; split <;> omega
  obtain ⟨sb1, sb2⟩ := sb
  have HZ := Lib.hid (show nearP a b = if s < 0 then -s else s by unfold nearP; rw [hs])
  clear hs
  by_cases hsn : s < 0
  · have H := Lib.hid (HZ.out.trans (if_pos hsn))
    clear HZ
    go_enter Try.func79, Try.ntmps79
    go_wp2_with (first
      | (go_at_call 76; refine (l2Phase_any _ _).mono ?_; rintro e w' ⟨rfl, rfl⟩)
      | (go_at_call 63; refine (sPhaseOf_any _ _).mono ?_; rintro e w' ⟨rfl, rfl⟩)
      | (go_at_call 80; refine (PhaseSigned_any _ _ (by omega) (by omega)).mono ?_; rintro e w' ⟨rfl, rfl⟩; rw [HS.out]))
    go_ret
    exact ⟨ret_int (by rw [H.out]), rfl⟩
  · have H := Lib.hid (HZ.out.trans (if_neg hsn))
    clear HZ
    go_enter Try.func79, Try.ntmps79
    go_wp2_with (first
      | (go_at_call 76; refine (l2Phase_any _ _).mono ?_; rintro e w' ⟨rfl, rfl⟩)
      | (go_at_call 63; refine (sPhaseOf_any _ _).mono ?_; rintro e w' ⟨rfl, rfl⟩)
      | (go_at_call 80; refine (PhaseSigned_any _ _ (by omega) (by omega)).mono ?_; rintro e w' ⟨rfl, rfl⟩; rw [HS.out]))
    go_ret
    exact ⟨ret_int (by rw [H.out]), rfl⟩

theorem Fitd.step_iff {n : Nat} {e : Nat → Nat → Bool} {t : Nat → Nat → Int} {P : List Int} {i j : Nat} (hij : i < j) (hj : j < n) (he : e i j = true) : Fitd n e t P i (j + 1) ↔ Fitd n e t P i j ∧ (Vm.pf P j - Vm.pf P i - t i j) % 360 = 0 :=
  ⟨fun h => ⟨fun a b hab h1 h2 h3 => h a b (by omega) h1 h2 h3, h i j (by omega) hij hj he⟩, fun h => h.1.step (fun _ => h.2)⟩
theorem Fitd.row_iff {n : Nat} {e : Nat → Nat → Bool} {t : Nat → Nat → Int} {P : List Int} {i : Nat} : Fitd n e t P i n ↔ Fitd n e t P (i + 1) 0 := ⟨Fitd.row, fun h a b hab h1 h2 h3 => h a b (by omega) h1 h2 h3⟩
theorem Fitd.low_iff {n : Nat} {e : Nat → Nat → Bool} {t : Nat → Nat → Int} {P : List Int} {i : Nat} : Fitd n e t P i 0 ↔ Fitd n e t P i (i + 1) := ⟨Fitd.low, fun h a b hab h1 h2 h3 => h a b (by omega) h1 h2 h3⟩
theorem Fitd.all_iff {n : Nat} {e : Nat → Nat → Bool} {t : Nat → Nat → Int} {P : List Int} : Fitd n e t P n 0 ↔ FitAll n e t P := ⟨Fitd.all, fun h a b _ h1 h2 h3 => h a b h1 h2 h3⟩
def RestPost (n : Nat) (e : Nat → Nat → Bool) (t : Nat → Nat → Int) (P : List Int) (w : World) (en : Ending) (w' : World) : Prop := ∃ r : Int, en = .returned (.int .i64 r) ∧ (r = 0 ↔ FitAll n e t P) ∧ Below w.heap.size w w'
theorem max_zero {r d : Int} (h1 : 0 ≤ r) (h2 : 0 ≤ d) : (if r < d then d else r) = 0 ↔ r = 0 ∧ d = 0 := by split <;> omega
set_option maxRecDepth 100000 in
set_option maxHeartbeats 8000000 in
theorem SolveRest_any (A A' Ap : Option Addr) (m c m' c' cq N : Nat) (L M : List (Int × Int)) (F : List Bool) (P : List Int) (w : World) (h : Rd w w.heap.size 2 A m c (cp L)) (h' : Rd w w.heap.size 2 A' m' c' (cp M)) (hp : Rd w w.heap.size 1 Ap N cq (ci P))
    (hL : Vm.Ok N L) (hM : Vm.Ok N M) (hF : ∀ i j, i < N → j < N → i ≠ j → Vm.fe N F i j = true) (hP : ∀ j, 0 ≤ Vm.pf P j ∧ Vm.pf P j < 360) :
    Calls Try.prog 68 #[.int .i64 N, .slice A m c, .slice A' m' c', .slice Ap N cq] w (RestPost N (Vm.fe N F) (Vm.ft N L M) P w) := by
  have N2 := hL.lo
  have N7 := hL.hi
  have hpl := hp.len
  rw [ci_length, Nat.mul_one] at hpl
  have hcapq := hp.cap
  have hmostq := hp.most
  have HL := Lib.hid hL
  have HM := Lib.hid hM
  have HVL := Lib.hid hL.to
  have HVM := Lib.hid hM.to
  have HF := Lib.hid hF
  have HP := Lib.hid hP
  have HPL := Lib.hid hpl
  have HTW := Lib.hid (show twoB N L M = true by simp [twoB, hL.to, hM.to])
  have hfd := field1
  clear hL hM hF hP hpl
  go_enter Try.func68, Try.ntmps68
  go_wp2_with (go_at_call 51; refine (l15Two_any _ _ _ _ _ _ N L M _ h h').mono ?_; rintro e w' ⟨rfl, rfl⟩; rw [HTW.out])
  go_loopw [9, 10] (fun rv v wr => ∃ (i : Nat) (r : Int), i ≤ N ∧ v = .int .i64 i ∧ rv = .int .i64 r ∧ 0 ≤ r ∧ r ≤ 400 ∧ Hid (r = 0 ↔ Fitd N (Vm.fe N F) (Vm.ft N L M) P i 0) ∧ Below w.heap.size w wr) (fun _ v _ => N - (intOf v).toNat)
  case atStart => exact ⟨0, 0, Nat.zero_le _, rfl, rfl, by omega, by omega, ⟨fun _ => Fitd.start _ _ _ _, fun _ => rfl⟩, b0 _⟩
  case round =>
    obtain ⟨i, rr, hi, rfl, rfl, hr1, hr2, hfit, hB⟩ := hrel
    by_cases hiN : i < N
    · go_wp2_with fail
      go_loopw [9, 11] (fun rv v wr => ∃ (j : Nat) (r : Int), i < j ∧ j ≤ N ∧ v = .int .i64 j ∧ rv = .int .i64 r ∧ 0 ≤ r ∧ r ≤ 400 ∧ Hid (r = 0 ↔ Fitd N (Vm.fe N F) (Vm.ft N L M) P i j) ∧ Below w.heap.size w wr) (fun _ v _ => N - (intOf v).toNat)
      case atStart => exact ⟨i + 1, rr, by omega, by omega, by go_num, rfl, hr1, hr2, hfit.out.trans Fitd.low_iff, hB⟩
      case round =>
        clear hfit hB hr1 hr2
        obtain ⟨j, rr, hij, hj, rfl, rfl, hr1, hr2, hfit, hB⟩ := hrel
        by_cases hjN : j < N
        · obtain ⟨b5, off5, rfl, hb5, hci⟩ := (hp.below hB).int_at (show i < P.length by rw [HPL.out]; omega)
          obtain ⟨b6, off6, e6, hb6, hcj⟩ := (hp.below hB).int_at (show j < P.length by rw [HPL.out]; omega)
          injection e6 with e6
          injection e6 with e6 e7
          subst e6 e7
          have ei : Vm.pf P i = P[i]'(by rw [HPL.out]; omega) := by have : i < P.length := by rw [HPL.out]; omega
                                                                    simp [Vm.pf, this]
          have ej : Vm.pf P j = P[j]'(by rw [HPL.out]; omega) := by have : j < P.length := by rw [HPL.out]; omega
                                                                    simp [Vm.pf, this]
          rw [← ei] at hci
          rw [← ej] at hcj
          have ri := HP.out i
          have rj := HP.out j
          have gL := (HL.out.get (i := i) (j := j) (by omega) (by omega) (by omega)).2
          have gM := (HM.out.get (i := i) (j := j) (by omega) (by omega) (by omega)).2
          have HFT := Lib.hid (show Vm.ft N L M i j = (Vm.vget N L i j).2 - (Vm.vget N M i j).2 from rfl)
          obtain ⟨p, hp1⟩ : ∃ p, Vm.pf P i = p := ⟨_, rfl⟩
          obtain ⟨r, hp2⟩ : ∃ p, Vm.pf P j = p := ⟨_, rfl⟩
          obtain ⟨x, hx⟩ : ∃ x, Vm.vget N L i j = x := ⟨_, rfl⟩
          obtain ⟨y, hy⟩ : ∃ x, Vm.vget N M i j = x := ⟨_, rfl⟩
          rw [hp1] at hci ri
          rw [hp2] at hcj rj
          rw [hx] at gL HFT
          rw [hy] at gM HFT
          have hph1 : Vm.phB p = true := (Vm.phB_iff _).2 ri
          have hph2 : Vm.phB r = true := (Vm.phB_iff _).2 rj
          obtain ⟨d, hd⟩ : ∃ d, (y.2 + r - p) % 360 = d := ⟨_, rfl⟩
          have hfits := Lib.hid (show ((Vm.pf P j - Vm.pf P i - Vm.ft N L M i j) % 360 = 0 ↔ d = x.2) ∧ (0 ≤ d ∧ d < 360) by rw [hp1, hp2, HFT.out]; omega)
          have hgx := Lib.hid gL
          have HX := Lib.hid hx
          have HY := Lib.hid hy
          have HD := Lib.hid hd
          have hw1 : IntKind.i64.wrap (y.2 + r) = y.2 + r := IntWalk.i64_in _ (by omega)
          have hw2 : IntKind.i64.wrap (y.2 + r - p) = y.2 + r - p := IntWalk.i64_in _ (by omega)
          have hb5' : b5 < wr.heap.size := by have := hB.size; omega
          clear hp1 hp2 hx hy hd ei ej gL HFT
          go_wp2_with (go_at_call 76; refine (l2Phase_any _ _).mono ?_; rintro e w' ⟨rfl, rfl⟩)
          refine wp_region_held_drew (S := fun W' => Below wr.heap.size wr W') (by kernel_rfl) (Below.drew (b0 wr)) (fun hS => ?_)
          refine wpAnyH_take (i := 0) (v := .int .i64 N) rfl (by kernel_rfl) (by kernel_rfl) (by kernel_rfl) (fun _ _ _ h => h) (Or.inl ⟨by rfl, fun ww hSw => ?_⟩) hS ?_
          · have e1 := (hSw.cell (p := ⟨b5, off5 + i, none⟩) hb5').trans hci; have e2 := (hSw.cell (p := ⟨b5, off5 + j, none⟩) hb5').trans hcj; have hw1 : IntKind.i64.wrap (y.2 + r) = y.2 + r := IntWalk.i64_in _ (by omega); have hw2 : IntKind.i64.wrap (y.2 + r - p) = y.2 + r - p := IntWalk.i64_in _ (by omega); go_simp
          refine wpAnyH_take (i := 1) (v := .slice A' m' c') rfl (by kernel_rfl) (by kernel_rfl) (by kernel_rfl) (fun _ _ _ h => h) (Or.inl ⟨by rfl, fun ww hSw => ?_⟩) hS ?_
          · have e1 := (hSw.cell (p := ⟨b5, off5 + i, none⟩) hb5').trans hci; have e2 := (hSw.cell (p := ⟨b5, off5 + j, none⟩) hb5').trans hcj; have hw1 : IntKind.i64.wrap (y.2 + r) = y.2 + r := IntWalk.i64_in _ (by omega); have hw2 : IntKind.i64.wrap (y.2 + r - p) = y.2 + r - p := IntWalk.i64_in _ (by omega); go_simp
          refine wpAnyH_take (i := 2) (v := .int .i64 i) rfl (by kernel_rfl) (by kernel_rfl) (by kernel_rfl) (fun _ _ _ h => h) (Or.inl ⟨by rfl, fun ww hSw => ?_⟩) hS ?_
          · have e1 := (hSw.cell (p := ⟨b5, off5 + i, none⟩) hb5').trans hci; have e2 := (hSw.cell (p := ⟨b5, off5 + j, none⟩) hb5').trans hcj; have hw1 : IntKind.i64.wrap (y.2 + r) = y.2 + r := IntWalk.i64_in _ (by omega); have hw2 : IntKind.i64.wrap (y.2 + r - p) = y.2 + r - p := IntWalk.i64_in _ (by omega); go_simp
          refine wpAnyH_take (i := 3) (v := .int .i64 j) rfl (by kernel_rfl) (by kernel_rfl) (by kernel_rfl) (fun _ _ _ h => h) (Or.inl ⟨by rfl, fun ww hSw => ?_⟩) hS ?_
          · have e1 := (hSw.cell (p := ⟨b5, off5 + i, none⟩) hb5').trans hci; have e2 := (hSw.cell (p := ⟨b5, off5 + j, none⟩) hb5').trans hcj; have hw1 : IntKind.i64.wrap (y.2 + r) = y.2 + r := IntWalk.i64_in _ (by omega); have hw2 : IntKind.i64.wrap (y.2 + r - p) = y.2 + r - p := IntWalk.i64_in _ (by omega); go_simp
          refine wpAnyH_take (i := 6) (v := .slice (some ⟨b5, off5, none⟩) N cq) rfl (by kernel_rfl) (by kernel_rfl) (by kernel_rfl) (fun _ _ _ h => h) (Or.inl ⟨by rfl, fun ww hSw => ?_⟩) hS ?_
          · have e1 := (hSw.cell (p := ⟨b5, off5 + i, none⟩) hb5').trans hci; have e2 := (hSw.cell (p := ⟨b5, off5 + j, none⟩) hb5').trans hcj; have hw1 : IntKind.i64.wrap (y.2 + r) = y.2 + r := IntWalk.i64_in _ (by omega); have hw2 : IntKind.i64.wrap (y.2 + r - p) = y.2 + r - p := IntWalk.i64_in _ (by omega); go_simp
          refine wpAnyH_take (i := 7) (v := .int .i64 j) rfl (by kernel_rfl) (by kernel_rfl) (by kernel_rfl) (fun _ _ _ h => h) (Or.inl ⟨by rfl, fun ww hSw => ?_⟩) hS ?_
          · have e1 := (hSw.cell (p := ⟨b5, off5 + i, none⟩) hb5').trans hci; have e2 := (hSw.cell (p := ⟨b5, off5 + j, none⟩) hb5').trans hcj; have hw1 : IntKind.i64.wrap (y.2 + r) = y.2 + r := IntWalk.i64_in _ (by omega); have hw2 : IntKind.i64.wrap (y.2 + r - p) = y.2 + r - p := IntWalk.i64_in _ (by omega); go_simp
          refine wpAnyH_take (i := 8) (v := .pointer (some ⟨b5, off5 + j, none⟩)) rfl (by kernel_rfl) (by kernel_rfl) (by kernel_rfl) (fun _ _ _ h => h) (Or.inl ⟨by rfl, fun ww hSw => ?_⟩) hS ?_
          · have e1 := (hSw.cell (p := ⟨b5, off5 + i, none⟩) hb5').trans hci; have e2 := (hSw.cell (p := ⟨b5, off5 + j, none⟩) hb5').trans hcj; have hw1 : IntKind.i64.wrap (y.2 + r) = y.2 + r := IntWalk.i64_in _ (by omega); have hw2 : IntKind.i64.wrap (y.2 + r - p) = y.2 + r - p := IntWalk.i64_in _ (by omega); go_simp
          refine wpAnyH_take (i := 9) (v := .int .i64 r) rfl (by kernel_rfl) (by kernel_rfl) (by kernel_rfl) (fun _ _ _ h => h) (Or.inl ⟨by rfl, fun ww hSw => ?_⟩) hS ?_
          · have e1 := (hSw.cell (p := ⟨b5, off5 + i, none⟩) hb5').trans hci; have e2 := (hSw.cell (p := ⟨b5, off5 + j, none⟩) hb5').trans hcj; have hw1 : IntKind.i64.wrap (y.2 + r) = y.2 + r := IntWalk.i64_in _ (by omega); have hw2 : IntKind.i64.wrap (y.2 + r - p) = y.2 + r - p := IntWalk.i64_in _ (by omega); go_simp
          refine wpAnyH_take (i := 11) (v := .slice (some ⟨b5, off5, none⟩) N cq) rfl (by kernel_rfl) (by kernel_rfl) (by kernel_rfl) (fun _ _ _ h => h) (Or.inl ⟨by rfl, fun ww hSw => ?_⟩) hS ?_
          · have e1 := (hSw.cell (p := ⟨b5, off5 + i, none⟩) hb5').trans hci; have e2 := (hSw.cell (p := ⟨b5, off5 + j, none⟩) hb5').trans hcj; have hw1 : IntKind.i64.wrap (y.2 + r) = y.2 + r := IntWalk.i64_in _ (by omega); have hw2 : IntKind.i64.wrap (y.2 + r - p) = y.2 + r - p := IntWalk.i64_in _ (by omega); go_simp
          refine wpAnyH_take (i := 12) (v := .int .i64 i) rfl (by kernel_rfl) (by kernel_rfl) (by kernel_rfl) (fun _ _ _ h => h) (Or.inl ⟨by rfl, fun ww hSw => ?_⟩) hS ?_
          · have e1 := (hSw.cell (p := ⟨b5, off5 + i, none⟩) hb5').trans hci; have e2 := (hSw.cell (p := ⟨b5, off5 + j, none⟩) hb5').trans hcj; have hw1 : IntKind.i64.wrap (y.2 + r) = y.2 + r := IntWalk.i64_in _ (by omega); have hw2 : IntKind.i64.wrap (y.2 + r - p) = y.2 + r - p := IntWalk.i64_in _ (by omega); go_simp
          refine wpAnyH_take (i := 13) (v := .pointer (some ⟨b5, off5 + i, none⟩)) rfl (by kernel_rfl) (by kernel_rfl) (by kernel_rfl) (fun _ _ _ h => h) (Or.inl ⟨by rfl, fun ww hSw => ?_⟩) hS ?_
          · have e1 := (hSw.cell (p := ⟨b5, off5 + i, none⟩) hb5').trans hci; have e2 := (hSw.cell (p := ⟨b5, off5 + j, none⟩) hb5').trans hcj; have hw1 : IntKind.i64.wrap (y.2 + r) = y.2 + r := IntWalk.i64_in _ (by omega); have hw2 : IntKind.i64.wrap (y.2 + r - p) = y.2 + r - p := IntWalk.i64_in _ (by omega); go_simp
          refine wpAnyH_take (i := 14) (v := .int .i64 p) rfl (by kernel_rfl) (by kernel_rfl) (by kernel_rfl) (fun _ _ _ h => h) (Or.inl ⟨by rfl, fun ww hSw => ?_⟩) hS ?_
          · have e1 := (hSw.cell (p := ⟨b5, off5 + i, none⟩) hb5').trans hci; have e2 := (hSw.cell (p := ⟨b5, off5 + j, none⟩) hb5').trans hcj; have hw1 : IntKind.i64.wrap (y.2 + r) = y.2 + r := IntWalk.i64_in _ (by omega); have hw2 : IntKind.i64.wrap (y.2 + r - p) = y.2 + r - p := IntWalk.i64_in _ (by omega); go_simp
          refine wpAnyH_ready (rs := [4]) (by kernel_rfl) (by simp) ?_
          refine AllReadyH.cons rfl (fun K hK => ?_) AllReadyH.nil
          go_simp
          refine (l11Get_any A' m' c' N i j M _ ((h'.below (bT hB hS)).more (bT hB hS).size) HVM.out (by omega) (by omega) (by omega)).mono ?_
          rintro e w5 ⟨rfl, hb5⟩
          rw [HY.out]
          unfold gv
          refine hK.out _ _ (bT hS hb5) (fun hS => ?_)
          clear hK K
          refine wpAnyH_take (i := 5) (v := .int .i64 y.2) rfl (by kernel_rfl) (by kernel_rfl) (by kernel_rfl) (fun _ _ _ h => h) (Or.inl ⟨by rfl, fun ww hSw => ?_⟩) hS ?_
          · have e1 := (hSw.cell (p := ⟨b5, off5 + i, none⟩) hb5').trans hci; have e2 := (hSw.cell (p := ⟨b5, off5 + j, none⟩) hb5').trans hcj; have hw1 : IntKind.i64.wrap (y.2 + r) = y.2 + r := IntWalk.i64_in _ (by omega); have hw2 : IntKind.i64.wrap (y.2 + r - p) = y.2 + r - p := IntWalk.i64_in _ (by omega); go_simp
          refine wpAnyH_take (i := 10) (v := .int .i64 (y.2 + r)) rfl (by kernel_rfl) (by kernel_rfl) (by kernel_rfl) (fun _ _ _ h => h) (Or.inl ⟨by rfl, fun ww hSw => ?_⟩) hS ?_
          · have e1 := (hSw.cell (p := ⟨b5, off5 + i, none⟩) hb5').trans hci; have e2 := (hSw.cell (p := ⟨b5, off5 + j, none⟩) hb5').trans hcj; have hw1 : IntKind.i64.wrap (y.2 + r) = y.2 + r := IntWalk.i64_in _ (by omega); have hw2 : IntKind.i64.wrap (y.2 + r - p) = y.2 + r - p := IntWalk.i64_in _ (by omega); go_simp
          refine wpAnyH_take (i := 15) (v := .int .i64 (y.2 + r - p)) rfl (by kernel_rfl) (by kernel_rfl) (by kernel_rfl) (fun _ _ _ h => h) (Or.inl ⟨by rfl, fun ww hSw => ?_⟩) hS ?_
          · have e1 := (hSw.cell (p := ⟨b5, off5 + i, none⟩) hb5').trans hci; have e2 := (hSw.cell (p := ⟨b5, off5 + j, none⟩) hb5').trans hcj; have hw1 : IntKind.i64.wrap (y.2 + r) = y.2 + r := IntWalk.i64_in _ (by omega); have hw2 : IntKind.i64.wrap (y.2 + r - p) = y.2 + r - p := IntWalk.i64_in _ (by omega); go_simp
          refine wpAnyH_ready (rs := [16]) (by kernel_rfl) (by simp) ?_
          refine AllReadyH.cons rfl (fun K hK => ?_) AllReadyH.nil
          go_simp
          refine (sPhaseOf_any _ _).mono ?_
          rintro e w' ⟨rfl, rfl⟩
          rw [HD.out]
          refine hK.out _ _ hS (fun hS => ?_)
          clear hK K
          refine wpAnyH_ready (rs := [17]) (by kernel_rfl) (by simp) ?_
          refine AllReadyH.cons rfl (fun K hK => ?_) AllReadyH.nil
          go_simp
          refine hK.out _ _ hS (fun hS => ?_)
          clear hK K
          refine ⟨by kernel_rfl, ?_⟩
          clear hw1 hw2 hci hcj
          have hS5 := bT hB hS
          have hrl := (h.below hS5).more hS5.size
          clear hS
          have hstep := Lib.hid (Fitd.step_iff (e := Vm.fe N F) (t := Vm.ft N L M) (P := P) hij hjN (HF.out i j hiN hjN (by omega)))
          obtain ⟨nb1, nb2⟩ := nearP_bd x.2 d
          have HNZ := Lib.hid (nearP_zero hgx.out hfits.out.2)
          obtain ⟨nr, hnr⟩ : ∃ z, nearP x.2 d = z := ⟨_, rfl⟩
          rw [hnr] at nb1 nb2 HNZ
          have HNR := Lib.hid hnr
          have HR9 := Lib.hid (show (if rr < nr then nr else rr) = 0 ↔ Fitd N (Vm.fe N F) (Vm.ft N L M) P i (j + 1) from
            (max_zero hr1 nb1).trans ((and_congr hfit.out (HNZ.out.trans hfits.out.1.symm)).trans hstep.out.symm))
          clear hnr
          go_wp2_with fail
          refine (l11Get_any A m c N i j L _ hrl HVL.out (by omega) (by omega) (by omega)).mono ?_
          rintro e w9 ⟨rfl, hb9⟩
          rw [HX.out]
          have hS9 := bT hS5 hb9
          unfold gv
          by_cases hlt : rr < nr
          · rw [if_pos hlt] at HR9
            go_wp2_with (go_at_call 79; refine (PhaseNear_any _ _ _ hgx.out hfits.out.2).mono ?_; rintro e w' ⟨rfl, rfl⟩; rw [HNR.out])
            go_roundw
            case rel => exact ⟨j + 1, nr, by omega, by omega, by go_num, rfl, nb1, nb2, HR9, hS9⟩
            case measure => simp [intOf]; omega
          · rw [if_neg hlt] at HR9
            go_wp2_with (go_at_call 79; refine (PhaseNear_any _ _ _ hgx.out hfits.out.2).mono ?_; rintro e w' ⟨rfl, rfl⟩; rw [HNR.out])
            go_roundw
            case rel => exact ⟨j + 1, rr, by omega, by omega, by go_num, rfl, hr1, hr2, HR9, hS9⟩
            case measure => simp [intOf]; omega
        · have hje : j = N := by omega
          subst hje
          go_wp2_with fail
          go_roundw
          case rel => exact ⟨i + 1, rr, by omega, by go_num, rfl, hr1, hr2, hfit.out.trans Fitd.row_iff, hB⟩
          case measure => simp [intOf]; omega
    · have hie : i = N := by omega
      subst hie
      have H : Hid (RestPost i (Vm.fe i F) (Vm.ft i L M) P w (.returned (.int .i64 rr)) wr) := ⟨rr, rfl, hfit.out.trans Fitd.all_iff, hB⟩
      clear hfit hB
      go_wp2_with fail
      go_ret
      exact H.out
def spL (N : Nat) (L M : List (Int × Int)) (k : Nat) : List Int := (List.range k).map fun j => if j = 0 then 0 else Vm.ft N L M 0 j % 360
theorem spL_len (N : Nat) (L M : List (Int × Int)) (k : Nat) : (spL N L M k).length = k := by simp [spL]
theorem spL_succ (N : Nat) (L M : List (Int × Int)) (k : Nat) (hk : 1 ≤ k) : spL N L M (k + 1) = spL N L M k ++ [Vm.ft N L M 0 k % 360] := by
  simp only [spL, List.range_succ, List.map_append, List.map_cons, List.map_nil]
  rw [if_neg (by omega)]
theorem spL_at (N : Nat) (L M : List (Int × Int)) (k j : Nat) (hj : j < k) : Vm.pf (spL N L M k) j = if j = 0 then 0 else Vm.ft N L M 0 j % 360 := by
  simp [Vm.pf, spL, hj]
theorem spL_rng (N : Nat) (L M : List (Int × Int)) (k j : Nat) : 0 ≤ Vm.pf (spL N L M k) j ∧ Vm.pf (spL N L M k) j < 360 := by
  by_cases hj : j < k
  · rw [spL_at N L M k j hj]; split <;> omega
  · have : Vm.pf (spL N L M k) j = 0 := by
      unfold Vm.pf
      rw [List.getD_eq_getElem?_getD, List.getElem?_eq_none (by rw [spL_len]; omega)]; rfl
    omega
theorem spL_val {N : Nat} {L M : List (Int × Int)} (m : Nat) (hN : 0 < N) (j : Nat) (hj : j < N) : Vm.Val (Vm.fe N (Vm.noF m)) (Vm.ft N L M) j (Vm.pf (spL N L M N) j) := by
  rw [spL_at N L M N j hj]
  by_cases h0 : j = 0
  · subst h0; rw [if_pos rfl]; exact Vm.val_zero
  · rw [if_neg h0]; exact Vm.val_none hN hj (by omega)
set_option maxRecDepth 100000 in
set_option maxHeartbeats 4000000 in
theorem sSolvePhases_any (A A' : Option Addr) (m c m' c' : Nat) (n : Int) (L M : List (Int × Int)) (w : World) (h : Rd w w.heap.size 2 A m c (cp L)) (h' : Rd w w.heap.size 2 A' m' c' (cp M)) :
    Calls Try.prog 30 #[.int .i64 n, .slice A m c, .slice A' m' c'] w (FlagPost n L M (Vm.noF (Vm.bmany n).toNat) w) := by
  cases ht : twoB n L M
  · have H := Lib.hid (two_no (F := Vm.noF (Vm.bmany n).toNat) ht)
    go_enter Try.func30, Try.ntmps30
    go_wp2_with (go_at_call 51; refine (l15Two_any _ _ _ _ _ _ n L M _ h h').mono ?_; rintro e w' ⟨rfl, rfl⟩; rw [ht])
    go_ret2
    exact FlagPost.lit H.out (b0 w)
  · obtain ⟨hv, hv2⟩ : Vm.visB n L = true ∧ Vm.visB n M = true := by simpa [twoB] using ht
    obtain ⟨N, rfl, hL⟩ := Vm.Ok.of hv
    obtain ⟨N', e, hM⟩ := Vm.Ok.of hv2
    obtain rfl : N = N' := by omega
    have N2 := hL.lo
    have N7 := hL.hi
    have hbm := Vm.bmany_nat N ((Vm.manyB_iff _).2 (by omega))
    rw [hbm, Int.toNat_natCast]
    have HN := Lib.hid (Vm.flag_net (Vm.noF (N * (N - 1) / 2)) hL hM)
    have HL := Lib.hid hL
    have HM := Lib.hid hM
    have HVL := Lib.hid hL.to
    have HVM := Lib.hid hM.to
    have HT := Lib.hid ht
    have hfd := field1
    obtain ⟨i0, hi0, hz0, hz1, hz2⟩ := info_parts infoInt0
    have hO0 : (w.alloc (.cells #[.int .i64 0] 3)).ownsRow w.heap.size 3 1 (.slice (some ⟨w.heap.size, 0, none⟩) 1 1) 1 (ci (spL N L M 1)) := World.ownsRow_lit w #[.int .i64 0] 1 (Nat.le_refl _) (by decide) rfl
    clear hv hv2 hL hM ht hbm e
    go_enter Try.func30, Try.ntmps30
    go_wp2_with (go_at_call 51; refine (l15Two_any _ _ _ _ _ _ N L M _ h h').mono ?_; rintro e w' ⟨rfl, rfl⟩; rw [HT.out])
    go_loopw [8, 9] (fun v jv wr => ∃ j : Nat, 1 ≤ j ∧ j ≤ N ∧ jv = .int .i64 j ∧ wr.ownsRow w.heap.size 3 1 v j (ci (spL N L M j)) ∧ Below w.heap.size w wr) (fun _ jv _ => N - (intOf jv).toNat)
    case atStart => exact ⟨1, by omega, by omega, rfl, hO0, bA (b0 w) _⟩
    case round =>
      clear hO0
      obtain ⟨j, hj1, hj, rfl, hown, hB⟩ := hrel
      by_cases hjN : j < N
      · have gL := (HL.out.get (i := 0) (j := j) (by omega) (by omega) (by omega)).2
        have gM := (HM.out.get (i := 0) (j := j) (by omega) (by omega) (by omega)).2
        have HSP := spL_succ N L M j hj1
        rw [show Vm.ft N L M 0 j = (Vm.vget N L 0 j).2 - (Vm.vget N M 0 j).2 from rfl] at HSP
        obtain ⟨x, hx⟩ : ∃ x, Vm.vget N L 0 j = x := ⟨_, rfl⟩
        obtain ⟨y, hy⟩ : ∃ x, Vm.vget N M 0 j = x := ⟨_, rfl⟩
        rw [hx] at gL HSP
        rw [hy] at gM HSP
        have HX := Lib.hid hx
        have HY := Lib.hid hy
        obtain ⟨d, hd⟩ : ∃ d, (x.2 - y.2) % 360 = d := ⟨_, rfl⟩
        rw [hd] at HSP
        have HD := Lib.hid hd
        have HSP2 := Lib.hid HSP
        have hw1 : IntKind.i64.wrap (x.2 - y.2) = x.2 - y.2 := IntWalk.i64_in _ (by omega)
        clear hx hy hd HSP
        go_wp2_with fail
        refine (l11Get_any A m c N 0 j L _ ((h.below hB).more hB.size) HVL.out (by omega) (by omega) (by omega)).mono ?_
        rintro e w5 ⟨rfl, hb5⟩
        rw [HX.out]
        have hown5 := own_after hown hb5
        have hB5 := bT hB hb5
        unfold gv
        go_wp2_with fail
        refine (l11Get_any A' m' c' N 0 j M _ ((h'.below hB5).more hB5.size) HVM.out (by omega) (by omega) (by omega)).mono ?_
        rintro e w6 ⟨rfl, hb6⟩
        rw [HY.out]
        have hown6 := (own_after hown5 hb6).alloc (.cells #[.int .i64 d] 3)
        have hB6 := bT hB5 hb6
        have hB7 := bA hB6 (.cells #[.int .i64 d] 3)
        have hsz := hB6.size
        clear hown hown5 hB hB5 hb5 hb6
        unfold gv
        go_wp2_with (first
          | (go_at_call 63; refine (sPhaseOf_any _ _).mono ?_; rintro e w' ⟨rfl, rfl⟩; rw [HD.out])
          | (at_builtin; refine wpList_append_own _ rfl _ _ 27 rfl w.heap.size 3 i0 _ 1 8 Try.underlying27 hi0 hz0 hz1 hz2 rfl (by decide) _ _ _ rfl hown6 ⟨w6.heap.size, 0, none⟩ 1 1 [.int .i64 d] rfl rfl (new_cells _ _ _) ?c2 ?c3 ?c4 ?c5 ?_))
        case c2 => intro u hu; simp at hu; subst hu; rfl
        case c3 => unfold maxLen; omega
        case c4 => omega
        case c5 => simp; omega
        intro v' w9 hown' hgrow _
        have hB9 := own_below hB7 hown6 hgrow
        clear hown6 hgrow hB7 hB6 hw1
        go_wp2_with fail
        go_roundw
        case rel => exact ⟨j + 1, by omega, by omega, by go_num, by rw [HSP2.out, ci_append]; exact hown', hB9⟩
        case measure => simp [intOf]; omega
      · have hje : j = N := by omega
        subst hje
        obtain ⟨Ao, co, rfl⟩ := own_form hown
        go_wp2_with fail
        refine (SolveRest_any A A' Ao m c m' c' co j L M (Vm.noF (j * (j - 1) / 2)) (spL j L M j) _ ((h.below hB).more hB.size) ((h'.below hB).more hB.size) (Rd.of_own hown) HL.out HM.out (fun a b ha hb hab => Vm.fe_none _ ha hb hab) (spL_rng j L M j)).mono ?_
        rintro e w9 ⟨r, rfl, hr, hB9⟩
        have hBB := bT hB hB9
        have hval := fun q hq => spL_val (L := L) (M := M) (N := j) (j * (j - 1) / 2) (by omega) q hq
        by_cases hr0 : r = 0
        · have hd : (r != 0) = false := by simp [hr0]
          have hpot : Vm.Pot (Vm.fe j (Vm.noF (j * (j - 1) / 2))) (Vm.ft j L M) (Vm.pf (spL j L M j)) := Vm.pot_fits HN.out (fun a b h1 h2 he => hr.1 hr0 a b h1 h2 he) (fun a b he => ((Vm.fe_iff _ _ _ _).1 he).2.2.1)
          have hol : w9.ownsRow w.heap.size 3 1 (.slice Ao j co) (spL j L M j).length (ci (spL j L M j)) := by rw [spL_len]; exact own_after hown hB9
          have H : Hid (FlagPost j L M (Vm.noF (j * (j - 1) / 2)) w (.returned (.tuple #[.slice Ao j co, .bool true])) w9) := ⟨_, _, _, rfl, Vm.res_yes HL.out HM.out (by simp [Vm.noF]) (spL_len _ _ _ _) hval hpot, hol, hBB⟩
          clear hr hr0 hpot hval hown
          clear hol
          go_wp2_with fail
          go_ret2
          exact H.out
        · have hd : (r != 0) = true := by simp [hr0]
          have hres : Hid (Vm.FlagRes j L M (Vm.noF (j * (j - 1) / 2)) false []) := Vm.res_no (fun hp => hr0 (hr.2 (fun a b _ _ he => fits_of_pot HN.out hval hp a b he)))
          clear hr hr0 hval hown
          go_wp2_with fail
          go_ret2
          exact FlagPost.lit hres.out hBB

end Go.Proofs.Ytmoeofclpnblmaa
