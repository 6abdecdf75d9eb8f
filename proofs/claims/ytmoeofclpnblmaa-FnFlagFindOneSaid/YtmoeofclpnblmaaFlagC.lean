/- The reference's FlagSolve and FlagFind. Written by flagsgen.py. -/
import Derived.Test.YtmoeofclpnblmaaFlagB
import Derived.Test.YtmoeofclpnblmaaVisC
namespace Go.Proofs.Ytmoeofclpnblmaa
open Go.RowKit

theorem fits_of_pot {n : Nat} {e : Nat → Nat → Bool} {t : Nat → Nat → Int} {P : Nat → Int} (hN : Vm.Net n e t) (hv : ∀ j, j < n → Vm.Val e t j (P j)) (hp : ∃ f, Vm.Pot e t f) : Vm.Pot e t P := by
  obtain ⟨f, hf⟩ := hp
  exact (Vm.fit_of_pot hN hf hv).pot
def twoB (n : Int) (L M : List (Int × Int)) : Bool := Vm.visB n L && Vm.visB n M
set_option maxHeartbeats 400000 in
theorem l15Two_any (A A' : Option Addr) (m c m' c' : Nat) (n : Int) (L M : List (Int × Int)) (w : World) (h : Rd w w.heap.size 2 A m c (cp L)) (h' : Rd w w.heap.size 2 A' m' c' (cp M)) :
    Calls Try.prog 51 #[.int .i64 n, .slice A m c, .slice A' m' c'] w fun e w' => e = .returned (.bool (twoB n L M)) ∧ w = w' := by
  cases hv : Vm.visB n L
  · have H := Lib.hid (show twoB n L M = false by simp [twoB, hv])
    go_enter Try.func51, Try.ntmps51
    go_wp2_with (go_at_call 60; refine (sVisValid_any _ _ _ n L _ h).mono ?_; rintro e w' ⟨rfl, rfl⟩; rw [hv])
    go_ret
    exact ⟨ret_bool H.out.symm, rfl⟩
  · have H := Lib.hid (show twoB n L M = Vm.visB n M by simp [twoB, hv])
    have HV := Lib.hid hv
    clear hv
    go_enter Try.func51, Try.ntmps51
    go_wp2_with fail
    refine (sVisValid_any _ _ _ n L _ h).mono ?_
    rintro e w' ⟨rfl, rfl⟩
    rw [HV.out]
    go_wp2_with fail
    refine (sVisValid_any _ _ _ n M _ h').mono ?_
    rintro e w' ⟨rfl, rfl⟩
    go_wp2_with fail
    go_ret
    exact ⟨ret_bool H.out.symm, rfl⟩
def okF (n : Int) (F : List Bool) : Bool := Vm.manyB n && decide ((F.length : Int) = Vm.bmany n)
theorem bmany_pos (n : Int) : decide (0 < Vm.bmany n) = Vm.manyB n := by
  cases hm : Vm.manyB n
  · simp [Vm.bmany, hm]
  · have h := (Vm.manyB_iff n).1 hm
    have := Vm.bidx_bd (n := n) (i := 0) (j := 1) (by omega) (by omega) (by omega) (by omega)
    simp; omega
set_option maxHeartbeats 400000 in
theorem l16Ok_any (A : Option Addr) (m c : Nat) (n : Int) (F : List Bool) (w : World) (h : Rd w w.heap.size 1 A m c (cbo F)) :
    Calls Try.prog 52 #[.int .i64 n, .slice A m c] w fun e w' => e = .returned (.bool (okF n F)) ∧ w = w' := by
  have hml := h.len
  rw [cbo_length, Nat.mul_one] at hml
  subst hml
  have hp := bmany_pos n
  cases hv : Vm.manyB n
  · have H := Lib.hid (show okF n F = false by simp [okF, hv])
    rw [hv] at hp
    go_enter Try.func52, Try.ntmps52
    go_wp2_with (go_at_call 46; refine (sBaseMany_any _ _).mono ?_; rintro e w' ⟨rfl, rfl⟩)
    go_ret
    exact ⟨ret_bool H.out.symm, rfl⟩
  · have H := Lib.hid (show okF n F = ((F.length : Int) == Vm.bmany n) by rw [Bool.eq_iff_iff]; simp [okF, hv])
    rw [hv] at hp
    go_enter Try.func52, Try.ntmps52
    go_wp2_with (go_at_call 46; refine (sBaseMany_any _ _).mono ?_; rintro e w' ⟨rfl, rfl⟩)
    go_ret
    exact ⟨ret_bool H.out.symm, rfl⟩
/-- All baselines before i, j that are not bad fit. -/
def Fitd (n : Nat) (e : Nat → Nat → Bool) (t : Nat → Nat → Int) (P : List Int) (i j : Nat) : Prop := ∀ a b, (a < i ∨ (a = i ∧ b < j)) → a < b → b < n → e a b = true → (Vm.pf P b - Vm.pf P a - t a b) % 360 = 0
def FitAll (n : Nat) (e : Nat → Nat → Bool) (t : Nat → Nat → Int) (P : List Int) : Prop := ∀ i j, i < j → j < n → e i j = true → (Vm.pf P j - Vm.pf P i - t i j) % 360 = 0
theorem Fitd.start (n : Nat) (e : Nat → Nat → Bool) (t : Nat → Nat → Int) (P : List Int) : Fitd n e t P 0 0 := fun a b h => absurd h (by omega)
theorem Fitd.row {n : Nat} {e : Nat → Nat → Bool} {t : Nat → Nat → Int} {P : List Int} {i : Nat} (h : Fitd n e t P i n) : Fitd n e t P (i + 1) 0 := fun a b hab h1 h2 he => h a b (by omega) h1 h2 he
theorem Fitd.low {n : Nat} {e : Nat → Nat → Bool} {t : Nat → Nat → Int} {P : List Int} {i : Nat} (h : Fitd n e t P i 0) : Fitd n e t P i (i + 1) := fun a b hab h1 h2 he => h a b (by omega) h1 h2 he
theorem Fitd.step {n : Nat} {e : Nat → Nat → Bool} {t : Nat → Nat → Int} {P : List Int} {i j : Nat} (h : Fitd n e t P i j) (hs : e i j = true → (Vm.pf P j - Vm.pf P i - t i j) % 360 = 0) : Fitd n e t P i (j + 1) := fun a b hab h1 h2 he => by
  by_cases c : a = i ∧ b = j
  · obtain ⟨rfl, rfl⟩ := c; exact hs he
  · exact h a b (by omega) h1 h2 he
theorem Fitd.all {n : Nat} {e : Nat → Nat → Bool} {t : Nat → Nat → Int} {P : List Int} (h : Fitd n e t P n 0) : FitAll n e t P := fun i j hij hj he => h i j (.inl (by omega)) hij hj he
def FitsPost (n : Nat) (e : Nat → Nat → Bool) (t : Nat → Nat → Int) (P : List Int) (w : World) (en : Ending) (w' : World) : Prop := ∃ b, en = .returned (.bool b) ∧ (b = true ↔ FitAll n e t P) ∧ Below w.heap.size w w'
theorem fe_at {n : Nat} {F : List Bool} {i j k : Nat} (hi : i < n) (hj : j < n) (hne : i ≠ j) (hk : Vm.bidx n i j = k) (hl : k < F.length) : Vm.fe n F i j = !F[k] := fe_flag hi hj hne hk hl
set_option maxRecDepth 100000 in
set_option maxHeartbeats 8000000 in
theorem l16Fits_any (A A' A'' Ap : Option Addr) (m c m' c' m'' c'' cq N : Nat) (L M : List (Int × Int)) (F : List Bool) (P : List Int) (w : World) (h : Rd w w.heap.size 2 A m c (cp L)) (h' : Rd w w.heap.size 2 A' m' c' (cp M)) (h'' : Rd w w.heap.size 1 A'' m'' c'' (cbo F)) (hp : Rd w w.heap.size 1 Ap N cq (ci P))
    (hL : Vm.Ok N L) (hM : Vm.Ok N M) (hF : F.length = N * (N - 1) / 2) (hP : ∀ j, 0 ≤ Vm.pf P j ∧ Vm.pf P j < 360) :
    Calls Try.prog 54 #[.int .i64 N, .slice A m c, .slice A' m' c', .slice A'' m'' c'', .slice Ap N cq] w (FitsPost N (Vm.fe N F) (Vm.ft N L M) P w) := by
  have N2 := hL.lo
  have N7 := hL.hi
  have hml := h''.len
  rw [cbo_length, Nat.mul_one] at hml
  subst hml
  have hpl := hp.len
  rw [ci_length, Nat.mul_one] at hpl
  have hcapq := hp.cap
  have hmostq := hp.most
  have hcap'' := h''.cap
  have hmost'' := h''.most
  have HL := Lib.hid hL
  have HM := Lib.hid hM
  have HVL := Lib.hid hL.to
  have HVM := Lib.hid hM.to
  have HF := Lib.hid hF
  have HP := Lib.hid hP
  have HPL := Lib.hid hpl
  have hfd := field1
  clear hL hM hF hP hpl
  go_enter Try.func54, Try.ntmps54
  go_wp2
  go_loopw [11] (fun v wr => ∃ i : Nat, i ≤ N ∧ v = .int .i64 i ∧ Hid (Fitd N (Vm.fe N F) (Vm.ft N L M) P i 0) ∧ Below w.heap.size w wr) (fun v _ => N - (intOf v).toNat)
  case atStart => exact ⟨0, Nat.zero_le _, rfl, Fitd.start _ _ _ _, b0 _⟩
  case round =>
    obtain ⟨i, hi, rfl, hfit, hB⟩ := hrel
    by_cases hiN : i < N
    · go_wp2_with fail
      go_loopw [12] (fun v wr => ∃ j : Nat, i < j ∧ j ≤ N ∧ v = .int .i64 j ∧ Hid (Fitd N (Vm.fe N F) (Vm.ft N L M) P i j) ∧ Below w.heap.size w wr) (fun v _ => N - (intOf v).toNat)
      case atStart => exact ⟨i + 1, by omega, by omega, by go_num, hfit.out.low, hB⟩
      case round =>
        clear hfit hB
        obtain ⟨j, hij, hj, rfl, hfit, hB⟩ := hrel
        by_cases hjN : j < N
        · obtain ⟨b1, b2, _⟩ := Vm.bidx_bd (n := N) (i := i) (j := j) (by omega) (by omega) (by omega) (by omega)
          have hbm := Vm.bmany_nat N ((Vm.manyB_iff _).2 (by omega))
          obtain ⟨q, hq⟩ := Vm.nat_of b1
          have hql : q < F.length := by rw [HF.out]; omega
          have hfe0 := fe_flag hiN hjN (by omega) hq hql
          have HQ := Lib.hid ((bix_eq (n := N) (i := i) (j := j) (by omega) (by omega) (by omega) (by omega)).trans hq)
          obtain ⟨b4, off4, rfl, hb4, hcf⟩ := (h''.below hB).bool_at hql
          obtain ⟨f, hf⟩ : ∃ f, F[q] = f := ⟨_, rfl⟩
          rw [hf] at hcf hfe0
          clear hf b1 b2 hbm hq
          obtain ⟨b5, off5, rfl, hb5, hci⟩ := (hp.below hB).int_at (show i < P.length by rw [HPL.out]; omega)
          obtain ⟨b6, off6, e6, hb6, hcj⟩ := (hp.below hB).int_at (show j < P.length by rw [HPL.out]; omega)
          injection e6 with e6
          injection e6 with e6 e7
          subst e6 e7
          have ei : Vm.pf P i = P[i]'(by rw [HPL.out]; omega) := by have : i < P.length := by rw [HPL.out]; omega
                                                                    simp [Vm.pf, this]
          have ej : Vm.pf P j = P[j]'(by rw [HPL.out]; omega) := by have : j < P.length := by rw [HPL.out]; omega
                                                                    simp [Vm.pf, this]
          rw [← ei] at hci
          rw [← ej] at hcj
          have ri := HP.out i
          have rj := HP.out j
          have gL := (HL.out.get (i := i) (j := j) (by omega) (by omega) (by omega)).2
          have gM := (HM.out.get (i := i) (j := j) (by omega) (by omega) (by omega)).2
          have HFT := Lib.hid (show Vm.ft N L M i j = (Vm.vget N L i j).2 - (Vm.vget N M i j).2 from rfl)
          obtain ⟨p, hp1⟩ : ∃ p, Vm.pf P i = p := ⟨_, rfl⟩
          obtain ⟨r, hp2⟩ : ∃ p, Vm.pf P j = p := ⟨_, rfl⟩
          obtain ⟨x, hx⟩ : ∃ x, Vm.vget N L i j = x := ⟨_, rfl⟩
          obtain ⟨y, hy⟩ : ∃ x, Vm.vget N M i j = x := ⟨_, rfl⟩
          rw [hp1] at hci ri
          rw [hp2] at hcj rj
          rw [hx] at gL HFT
          rw [hy] at gM HFT
          obtain ⟨d, hd⟩ : ∃ d, (y.2 + r - p) % 360 = d := ⟨_, rfl⟩
          have hfits := Lib.hid (show ((Vm.pf P j - Vm.pf P i - Vm.ft N L M i j) % 360 = 0 ↔ d = x.2) ∧ (0 ≤ d ∧ d < 360) by rw [hp1, hp2, HFT.out]; omega)
          have HP1 := Lib.hid hp1
          have HP2 := Lib.hid hp2
          have HX := Lib.hid hx
          have HY := Lib.hid hy
          have HD := Lib.hid hd
          have hw1 : IntKind.i64.wrap (y.2 + r) = y.2 + r := IntWalk.i64_in _ (by omega)
          have hw2 : IntKind.i64.wrap (y.2 + r - p) = y.2 + r - p := IntWalk.i64_in _ (by omega)
          have hb5' : b5 < wr.heap.size := by have := hB.size; omega
          have hb4' : b4 < wr.heap.size := by have := hB.size; omega
          clear hp1 hp2 hx hy hd ei ej gL HFT
          go_wp2_with fail
          refine wp_region_held_drew (S := fun W' => Below wr.heap.size wr W') (by kernel_rfl) (Below.drew (b0 wr)) (fun hS => ?_)
          refine wpAnyH_take (i := 0) (v := .int .i64 N) rfl (by kernel_rfl) (by kernel_rfl) (by kernel_rfl) (fun _ _ _ h => h) (Or.inl ⟨by rfl, fun ww hSw => ?_⟩) hS ?_
          · have e1 := (hSw.cell (p := ⟨b5, off5 + i, none⟩) hb5').trans hci; have e2 := (hSw.cell (p := ⟨b5, off5 + j, none⟩) hb5').trans hcj; have hw1 : IntKind.i64.wrap (y.2 + r) = y.2 + r := IntWalk.i64_in _ (by omega); have hw2 : IntKind.i64.wrap (y.2 + r - p) = y.2 + r - p := IntWalk.i64_in _ (by omega); go_simp
          refine wpAnyH_take (i := 1) (v := .slice A' m' c') rfl (by kernel_rfl) (by kernel_rfl) (by kernel_rfl) (fun _ _ _ h => h) (Or.inl ⟨by rfl, fun ww hSw => ?_⟩) hS ?_
          · have e1 := (hSw.cell (p := ⟨b5, off5 + i, none⟩) hb5').trans hci; have e2 := (hSw.cell (p := ⟨b5, off5 + j, none⟩) hb5').trans hcj; have hw1 : IntKind.i64.wrap (y.2 + r) = y.2 + r := IntWalk.i64_in _ (by omega); have hw2 : IntKind.i64.wrap (y.2 + r - p) = y.2 + r - p := IntWalk.i64_in _ (by omega); go_simp
          refine wpAnyH_take (i := 2) (v := .int .i64 i) rfl (by kernel_rfl) (by kernel_rfl) (by kernel_rfl) (fun _ _ _ h => h) (Or.inl ⟨by rfl, fun ww hSw => ?_⟩) hS ?_
          · have e1 := (hSw.cell (p := ⟨b5, off5 + i, none⟩) hb5').trans hci; have e2 := (hSw.cell (p := ⟨b5, off5 + j, none⟩) hb5').trans hcj; have hw1 : IntKind.i64.wrap (y.2 + r) = y.2 + r := IntWalk.i64_in _ (by omega); have hw2 : IntKind.i64.wrap (y.2 + r - p) = y.2 + r - p := IntWalk.i64_in _ (by omega); go_simp
          refine wpAnyH_take (i := 3) (v := .int .i64 j) rfl (by kernel_rfl) (by kernel_rfl) (by kernel_rfl) (fun _ _ _ h => h) (Or.inl ⟨by rfl, fun ww hSw => ?_⟩) hS ?_
          · have e1 := (hSw.cell (p := ⟨b5, off5 + i, none⟩) hb5').trans hci; have e2 := (hSw.cell (p := ⟨b5, off5 + j, none⟩) hb5').trans hcj; have hw1 : IntKind.i64.wrap (y.2 + r) = y.2 + r := IntWalk.i64_in _ (by omega); have hw2 : IntKind.i64.wrap (y.2 + r - p) = y.2 + r - p := IntWalk.i64_in _ (by omega); go_simp
          refine wpAnyH_take (i := 6) (v := .slice (some ⟨b5, off5, none⟩) N cq) rfl (by kernel_rfl) (by kernel_rfl) (by kernel_rfl) (fun _ _ _ h => h) (Or.inl ⟨by rfl, fun ww hSw => ?_⟩) hS ?_
          · have e1 := (hSw.cell (p := ⟨b5, off5 + i, none⟩) hb5').trans hci; have e2 := (hSw.cell (p := ⟨b5, off5 + j, none⟩) hb5').trans hcj; have hw1 : IntKind.i64.wrap (y.2 + r) = y.2 + r := IntWalk.i64_in _ (by omega); have hw2 : IntKind.i64.wrap (y.2 + r - p) = y.2 + r - p := IntWalk.i64_in _ (by omega); go_simp
          refine wpAnyH_take (i := 7) (v := .int .i64 j) rfl (by kernel_rfl) (by kernel_rfl) (by kernel_rfl) (fun _ _ _ h => h) (Or.inl ⟨by rfl, fun ww hSw => ?_⟩) hS ?_
          · have e1 := (hSw.cell (p := ⟨b5, off5 + i, none⟩) hb5').trans hci; have e2 := (hSw.cell (p := ⟨b5, off5 + j, none⟩) hb5').trans hcj; have hw1 : IntKind.i64.wrap (y.2 + r) = y.2 + r := IntWalk.i64_in _ (by omega); have hw2 : IntKind.i64.wrap (y.2 + r - p) = y.2 + r - p := IntWalk.i64_in _ (by omega); go_simp
          refine wpAnyH_take (i := 8) (v := .pointer (some ⟨b5, off5 + j, none⟩)) rfl (by kernel_rfl) (by kernel_rfl) (by kernel_rfl) (fun _ _ _ h => h) (Or.inl ⟨by rfl, fun ww hSw => ?_⟩) hS ?_
          · have e1 := (hSw.cell (p := ⟨b5, off5 + i, none⟩) hb5').trans hci; have e2 := (hSw.cell (p := ⟨b5, off5 + j, none⟩) hb5').trans hcj; have hw1 : IntKind.i64.wrap (y.2 + r) = y.2 + r := IntWalk.i64_in _ (by omega); have hw2 : IntKind.i64.wrap (y.2 + r - p) = y.2 + r - p := IntWalk.i64_in _ (by omega); go_simp
          refine wpAnyH_take (i := 9) (v := .int .i64 r) rfl (by kernel_rfl) (by kernel_rfl) (by kernel_rfl) (fun _ _ _ h => h) (Or.inl ⟨by rfl, fun ww hSw => ?_⟩) hS ?_
          · have e1 := (hSw.cell (p := ⟨b5, off5 + i, none⟩) hb5').trans hci; have e2 := (hSw.cell (p := ⟨b5, off5 + j, none⟩) hb5').trans hcj; have hw1 : IntKind.i64.wrap (y.2 + r) = y.2 + r := IntWalk.i64_in _ (by omega); have hw2 : IntKind.i64.wrap (y.2 + r - p) = y.2 + r - p := IntWalk.i64_in _ (by omega); go_simp
          refine wpAnyH_take (i := 11) (v := .slice (some ⟨b5, off5, none⟩) N cq) rfl (by kernel_rfl) (by kernel_rfl) (by kernel_rfl) (fun _ _ _ h => h) (Or.inl ⟨by rfl, fun ww hSw => ?_⟩) hS ?_
          · have e1 := (hSw.cell (p := ⟨b5, off5 + i, none⟩) hb5').trans hci; have e2 := (hSw.cell (p := ⟨b5, off5 + j, none⟩) hb5').trans hcj; have hw1 : IntKind.i64.wrap (y.2 + r) = y.2 + r := IntWalk.i64_in _ (by omega); have hw2 : IntKind.i64.wrap (y.2 + r - p) = y.2 + r - p := IntWalk.i64_in _ (by omega); go_simp
          refine wpAnyH_take (i := 12) (v := .int .i64 i) rfl (by kernel_rfl) (by kernel_rfl) (by kernel_rfl) (fun _ _ _ h => h) (Or.inl ⟨by rfl, fun ww hSw => ?_⟩) hS ?_
          · have e1 := (hSw.cell (p := ⟨b5, off5 + i, none⟩) hb5').trans hci; have e2 := (hSw.cell (p := ⟨b5, off5 + j, none⟩) hb5').trans hcj; have hw1 : IntKind.i64.wrap (y.2 + r) = y.2 + r := IntWalk.i64_in _ (by omega); have hw2 : IntKind.i64.wrap (y.2 + r - p) = y.2 + r - p := IntWalk.i64_in _ (by omega); go_simp
          refine wpAnyH_take (i := 13) (v := .pointer (some ⟨b5, off5 + i, none⟩)) rfl (by kernel_rfl) (by kernel_rfl) (by kernel_rfl) (fun _ _ _ h => h) (Or.inl ⟨by rfl, fun ww hSw => ?_⟩) hS ?_
          · have e1 := (hSw.cell (p := ⟨b5, off5 + i, none⟩) hb5').trans hci; have e2 := (hSw.cell (p := ⟨b5, off5 + j, none⟩) hb5').trans hcj; have hw1 : IntKind.i64.wrap (y.2 + r) = y.2 + r := IntWalk.i64_in _ (by omega); have hw2 : IntKind.i64.wrap (y.2 + r - p) = y.2 + r - p := IntWalk.i64_in _ (by omega); go_simp
          refine wpAnyH_take (i := 14) (v := .int .i64 p) rfl (by kernel_rfl) (by kernel_rfl) (by kernel_rfl) (fun _ _ _ h => h) (Or.inl ⟨by rfl, fun ww hSw => ?_⟩) hS ?_
          · have e1 := (hSw.cell (p := ⟨b5, off5 + i, none⟩) hb5').trans hci; have e2 := (hSw.cell (p := ⟨b5, off5 + j, none⟩) hb5').trans hcj; have hw1 : IntKind.i64.wrap (y.2 + r) = y.2 + r := IntWalk.i64_in _ (by omega); have hw2 : IntKind.i64.wrap (y.2 + r - p) = y.2 + r - p := IntWalk.i64_in _ (by omega); go_simp
          refine wpAnyH_ready (rs := [4]) (by kernel_rfl) (by simp) ?_
          refine AllReadyH.cons rfl (fun K hK => ?_) AllReadyH.nil
          go_simp
          refine (l11Get_any A' m' c' N i j M _ ((h'.below (bT hB hS)).more (bT hB hS).size) HVM.out (by omega) (by omega) (by omega)).mono ?_
          rintro e w5 ⟨rfl, hb5⟩
          rw [HY.out]
          unfold gv
          refine hK.out _ _ (bT hS hb5) (fun hS => ?_)
          clear hK K
          refine wpAnyH_take (i := 5) (v := .int .i64 y.2) rfl (by kernel_rfl) (by kernel_rfl) (by kernel_rfl) (fun _ _ _ h => h) (Or.inl ⟨by rfl, fun ww hSw => ?_⟩) hS ?_
          · have e1 := (hSw.cell (p := ⟨b5, off5 + i, none⟩) hb5').trans hci; have e2 := (hSw.cell (p := ⟨b5, off5 + j, none⟩) hb5').trans hcj; have hw1 : IntKind.i64.wrap (y.2 + r) = y.2 + r := IntWalk.i64_in _ (by omega); have hw2 : IntKind.i64.wrap (y.2 + r - p) = y.2 + r - p := IntWalk.i64_in _ (by omega); go_simp
          refine wpAnyH_take (i := 10) (v := .int .i64 (y.2 + r)) rfl (by kernel_rfl) (by kernel_rfl) (by kernel_rfl) (fun _ _ _ h => h) (Or.inl ⟨by rfl, fun ww hSw => ?_⟩) hS ?_
          · have e1 := (hSw.cell (p := ⟨b5, off5 + i, none⟩) hb5').trans hci; have e2 := (hSw.cell (p := ⟨b5, off5 + j, none⟩) hb5').trans hcj; have hw1 : IntKind.i64.wrap (y.2 + r) = y.2 + r := IntWalk.i64_in _ (by omega); have hw2 : IntKind.i64.wrap (y.2 + r - p) = y.2 + r - p := IntWalk.i64_in _ (by omega); go_simp
          refine wpAnyH_take (i := 15) (v := .int .i64 (y.2 + r - p)) rfl (by kernel_rfl) (by kernel_rfl) (by kernel_rfl) (fun _ _ _ h => h) (Or.inl ⟨by rfl, fun ww hSw => ?_⟩) hS ?_
          · have e1 := (hSw.cell (p := ⟨b5, off5 + i, none⟩) hb5').trans hci; have e2 := (hSw.cell (p := ⟨b5, off5 + j, none⟩) hb5').trans hcj; have hw1 : IntKind.i64.wrap (y.2 + r) = y.2 + r := IntWalk.i64_in _ (by omega); have hw2 : IntKind.i64.wrap (y.2 + r - p) = y.2 + r - p := IntWalk.i64_in _ (by omega); go_simp
          refine wpAnyH_ready (rs := [16]) (by kernel_rfl) (by simp) ?_
          refine AllReadyH.cons rfl (fun K hK => ?_) AllReadyH.nil
          go_simp
          refine (sPhaseOf_any _ _).mono ?_
          rintro e w' ⟨rfl, rfl⟩
          rw [HD.out]
          refine hK.out _ _ hS (fun hS => ?_)
          clear hK K
          refine wpAnyH_ready (rs := [17]) (by kernel_rfl) (by simp) ?_
          refine AllReadyH.cons rfl (fun K hK => ?_) AllReadyH.nil
          go_simp
          refine hK.out _ _ hS (fun hS => ?_)
          clear hK K
          refine ⟨by kernel_rfl, ?_⟩
          clear hw1 hw2 hci hcj
          have hcf5 := (hS.cell (p := ⟨b4, off4 + q, none⟩) hb4').trans hcf
          have hS5 := bT hB hS
          have hrl := (h.below hS5).more hS5.size
          clear hcf
          clear hS
          cases f
          · have HE := Lib.hid (show Vm.fe N F i j = true by rw [hfe0]; rfl)
            have hXY : 0 ≤ d ∧ d < 360 := hfits.out.2
            by_cases hdx : d = x.2
            · have hd5 : (d != x.2) = false := by simp [hdx]
              have hstep := Lib.hid (hfit.out.step (fun _ => hfits.out.1.2 hdx))
              clear hdx hfe0
              go_wp2_with (go_at_call 74; refine (sBaseIndex_any _ _ _ _).mono ?_; rintro e w' ⟨rfl, rfl⟩; rw [HQ.out])
              refine (l11Get_any A m c N i j L _ hrl HVL.out (by omega) (by omega) (by omega)).mono ?_
              rintro e w9 ⟨rfl, hb9⟩
              rw [HX.out]
              have hS9 := bT hS5 hb9
              unfold gv
              go_wp2_with fail
              go_roundw
              case rel => exact ⟨j + 1, by omega, by omega, by go_num, hstep, hS9⟩
              case measure => simp [intOf]; omega
            · have hd5 : (d != x.2) = true := by simp [hdx]
              have hno : Hid (¬ FitAll N (Vm.fe N F) (Vm.ft N L M) P) := fun hall => hdx (hfits.out.1.1 (hall i j hij hjN HE.out))
              clear hdx hfe0
              go_wp2_with (go_at_call 74; refine (sBaseIndex_any _ _ _ _).mono ?_; rintro e w' ⟨rfl, rfl⟩; rw [HQ.out])
              refine (l11Get_any A m c N i j L _ hrl HVL.out (by omega) (by omega) (by omega)).mono ?_
              rintro e w9 ⟨rfl, hb9⟩
              rw [HX.out]
              have hS9 := bT hS5 hb9
              unfold gv
              go_wp2_with fail
              go_ret
              exact ⟨false, rfl, ⟨fun hh => (by cases hh), fun hall => absurd hall hno.out⟩, hS9⟩
          · have hstep := Lib.hid (hfit.out.step (fun he => by rw [hfe0] at he; cases he))
            clear hfe0
            go_wp2_with (go_at_call 74; refine (sBaseIndex_any _ _ _ _).mono ?_; rintro e w' ⟨rfl, rfl⟩; rw [HQ.out])
            go_roundw
            case rel => exact ⟨j + 1, by omega, by omega, by go_num, hstep, hS5⟩
            case measure => simp [intOf]; omega
        · have hje : j = N := by omega
          subst hje
          go_wp2_with fail
          go_roundw
          case rel => exact ⟨i + 1, by omega, by go_num, hfit.out.row, hB⟩
          case measure => simp [intOf]; omega
    · have hie : i = N := by omega
      subst hie
      go_wp2_with fail
      go_ret
      exact ⟨true, rfl, ⟨fun _ => hfit.out.all, fun _ => rfl⟩, hB⟩

end Go.Proofs.Ytmoeofclpnblmaa
