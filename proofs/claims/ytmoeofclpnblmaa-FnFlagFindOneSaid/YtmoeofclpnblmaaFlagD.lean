/- The reference's FlagSolve and FlagFind: rounds of spreading. Written by flagdgen.py. -/
import Derived.Test.YtmoeofclpnblmaaFlagC
namespace Go.Proofs.Ytmoeofclpnblmaa
open Go.RowKit

/-- The rows of phases and of known antennas; below block B all is as it was. -/
structure Sg (B bp bk : Nat) (K : List Bool) (P : List Int) (w wr : World) : Prop where
  ri : RI wr bp P
  rb : RB wr bk K
  below : Below B w wr
  lo : B ≤ bp
  up : bp < bk
section
variable {B bp bk : Nat} {K : List Bool} {P : List Int} {w wr w' : World}
theorem Sg.le (h : Sg B bp bk K P w wr) : B ≤ wr.heap.size := by have := h.lo; have := h.ri.lt; omega
theorem Sg.after (h : Sg B bp bk K P w wr) (hb : Below wr.heap.size wr w') : Sg B bp bk K P w w' := ⟨h.ri.after hb, h.rb.after hb, h.below.trans (hb.mono h.le), h.lo, h.up⟩
theorem Sg.setK (h : Sg B bp bk K P w wr) (j : Nat) (x : Bool) : Sg B bp bk (K.set j x) P w (wr.setCell ⟨bk, j, none⟩ (.bool x)) := by
  have h1 := h.lo
  have h2 := h.up
  exact ⟨h.ri.other _ (by show bp ≠ bk; omega) _, h.rb.set j x, h.below.setCell (by show B ≤ bk; omega) _, h1, h2⟩
theorem Sg.setP (h : Sg B bp bk K P w wr) (j : Nat) (x : Int) : Sg B bp bk K (P.set j x) w (wr.setCell ⟨bp, j, none⟩ (.int .i64 x)) := by
  have h1 := h.lo
  have h2 := h.up
  exact ⟨h.ri.set j x, h.rb.other _ (by show bk ≠ bp; omega) _, h.below.setCell (by show B ≤ bp; omega) _, h1, h2⟩
theorem Sg.next {w2 : World} (h : Sg B bp bk K P w wr) {K' : List Bool} {P' : List Int} (h2 : Sg B bp bk K' P' wr w2) : Sg B bp bk K' P' w w2 := ⟨h2.ri, h2.rb, h.below.trans h2.below, h.lo, h.up⟩
theorem Sg.here (h : Sg B bp bk K P w wr) : Sg B bp bk K P wr wr := ⟨h.ri, h.rb, Below.refl _ _, h.lo, h.up⟩
theorem Rd.sg {size n c : Nat} {A : Option Addr} {xs : List Value} (h : Rd w B size A n c xs) (hg : Sg B bp bk K P w wr) : Rd wr wr.heap.size size A n c xs := (h.below hg.below).more hg.le
end
def SprPost (N : Nat) (e : Nat → Nat → Bool) (t : Nat → Nat → Int) (B bp bk : Nat) (K : List Bool) (w : World) (en : Ending) (w' : World) : Prop :=
  (∃ v, en = .returned v) ∧ ∃ (K' : List Bool) (P' : List Int), Vm.Sp N e t K' P' ∧ Vm.Spr e (Vm.kf K) (Vm.kf K') ∧ Sg B bp bk K' P' w w'
def s1 (N : Nat) (e : Nat → Nat → Bool) (t : Nat → Nat → Int) (B bp bk : Nat) (K0 : List Bool) (w : World) (v : Value) (wr : World) : Prop :=
  ∃ (i : Nat) (K : List Bool) (P : List Int), i ≤ N ∧ v = .int .i64 i ∧ Vm.Sp N e t K P ∧ Vm.Spd e K0 K i 0 ∧ Sg B bp bk K P w wr
def s2 (N : Nat) (e : Nat → Nat → Bool) (t : Nat → Nat → Int) (B bp bk : Nat) (K0 : List Bool) (w : World) (i : Nat) (v : Value) (wr : World) : Prop :=
  ∃ (j : Nat) (K : List Bool) (P : List Int), j ≤ N ∧ v = .int .i64 j ∧ Vm.Sp N e t K P ∧ Vm.Spd e K0 K i j ∧ Sg B bp bk K P w wr
set_option maxRecDepth 100000 in
set_option maxHeartbeats 8000000 in
theorem l16Spread_any (A A' A'' : Option Addr) (m c m' c' m'' c'' N B bp bk : Nat) (L M : List (Int × Int)) (F : List Bool) (K0 : List Bool) (P0 : List Int) (w : World) (h : Rd w B 2 A m c (cp L)) (h' : Rd w B 2 A' m' c' (cp M)) (h'' : Rd w B 1 A'' m'' c'' (cbo F))
    (hL : Vm.Ok N L) (hM : Vm.Ok N M) (hF : F.length = N * (N - 1) / 2) (hSp : Vm.Sp N (Vm.fe N F) (Vm.ft N L M) K0 P0) (hSg : Sg B bp bk K0 P0 w w) :
    Calls Try.prog 53 #[.int .i64 N, .slice A m c, .slice A' m' c', .slice A'' m'' c'', .slice (some ⟨bp, 0, none⟩) N N, .slice (some ⟨bk, 0, none⟩) N N] w (SprPost N (Vm.fe N F) (Vm.ft N L M) B bp bk K0 w) := by
  have N2 := hL.lo
  have N7 := hL.hi
  have hml := h''.len
  rw [cbo_length, Nat.mul_one] at hml
  subst hml
  have hcap'' := h''.cap
  have hmost'' := h''.most
  have HL := Lib.hid hL
  have HM := Lib.hid hM
  have HVL := Lib.hid hL.to
  have HVM := Lib.hid hM.to
  have HN := Lib.hid (Vm.flag_net F hL hM)
  have HF := Lib.hid hF
  have hfd := field1
  have hup := hSg.up
  clear hL hM hF
  go_enter Try.func53, Try.ntmps53
  go_wp2
  go_loopw [12] (fun v wr => s1 N (Vm.fe N F) (Vm.ft N L M) B bp bk K0 w v wr) (fun v _ => N - (intOf v).toNat)
  case atStart => exact ⟨0, K0, P0, Nat.zero_le _, rfl, hSp, Vm.Spd.start _ _, hSg⟩
  case round =>
    clear hSp hSg
    obtain ⟨i, K, P, hi, rfl, hSp, hSd, hG⟩ := hrel
    by_cases hiN : i < N
    · have HSp := Lib.hid hSp
      have HSd := Lib.hid hSd
      clear hSp hSd
      go_wp2_with fail
      go_loopw [13] (fun v wr => s2 N (Vm.fe N F) (Vm.ft N L M) B bp bk K0 w i v wr) (fun v _ => N - (intOf v).toNat)
      case atStart => exact ⟨0, K, P, Nat.zero_le _, rfl, HSp.out, HSd.out, hG⟩
      case round =>
        clear HSp HSd
        clear hG
        obtain ⟨j, K, P, hj, rfl, hSp0, hSd0, hG⟩ := hrel
        have HSp := Lib.hid hSp0
        have HSd := Lib.hid hSd0
        clear hSp0 hSd0
        by_cases hjN : j < N
        · by_cases hij : i = j
          · have hd : ((i : Int) == (j : Int)) = true := by simp [hij]
            have hst := Lib.hid (HSd.out.skip (by rw [← hij, fe_same]; intro hh; cases hh))
            clear hij
            go_wp2_with fail
            go_roundw
            case rel => exact ⟨j + 1, K, P, by omega, by go_num, HSp.out, hst.out, hG⟩
            case measure => simp [intOf]; omega
          · have hd : ((i : Int) == (j : Int)) = false := by simp; omega
            obtain ⟨b1, b2, _⟩ := Vm.bidx_bd (n := N) (i := i) (j := j) (by omega) (by omega) (by omega) (by omega)
            have hbm := Vm.bmany_nat N ((Vm.manyB_iff _).2 (by omega))
            obtain ⟨q, hq⟩ := Vm.nat_of b1
            have hql : q < F.length := by rw [HF.out]; omega
            have hfe0 := fe_flag hiN hjN hij hq hql
            have HQ := Lib.hid ((bix_eq (n := N) (i := i) (j := j) (by omega) (by omega) (by omega) (by omega)).trans hq)
            obtain ⟨b4, off4, rfl, hb4, hcf⟩ := (h''.below hG.below).bool_at hql
            obtain ⟨f, hf⟩ : ∃ f, F[q] = f := ⟨_, rfl⟩
            rw [hf] at hcf hfe0
            clear hf b1 b2 hbm hq
            cases f
            · have HE := Lib.hid (show Vm.fe N F i j = true by rw [hfe0]; rfl)
              clear hfe0
              have cki := hG.rb.cell (j := i) (by rw [HSp.out.kl]; exact hiN)
              have ckj := hG.rb.cell (j := j) (by rw [HSp.out.kl]; exact hjN)
              have fkj := hG.rb.frozen j
              cases hki : Vm.kf K i
              · rw [hki] at cki
                have hst := Lib.hid (HSd.out.skip (fun _ hh => by rw [hki] at hh; cases hh))
                clear hki
                go_wp2_with (go_at_call 74; refine (sBaseIndex_any _ _ _ _).mono ?_; rintro e w' ⟨rfl, rfl⟩; rw [HQ.out])
                go_roundw
                case rel => exact ⟨j + 1, K, P, by omega, by go_num, HSp.out, hst.out, hG⟩
                case measure => simp [intOf]; omega
              · rw [hki] at cki
                have HKI := Lib.hid hki
                clear hki
                cases hkj : Vm.kf K j
                · rw [hkj] at ckj
                  have HKJ := Lib.hid hkj
                  clear hkj
                  have gL := (HL.out.get (i := i) (j := j) (by omega) (by omega) (by omega)).2
                  have gM := (HM.out.get (i := i) (j := j) (by omega) (by omega) (by omega)).2
                  have HFT := Lib.hid (show Vm.ft N L M i j = (Vm.vget N L i j).2 - (Vm.vget N M i j).2 from rfl)
                  have rp := HSp.out.rng i
                  obtain ⟨p, hp⟩ : ∃ p, Vm.pf P i = p := ⟨_, rfl⟩
                  obtain ⟨x, hx⟩ : ∃ x, Vm.vget N L i j = x := ⟨_, rfl⟩
                  obtain ⟨y, hy⟩ : ∃ x, Vm.vget N M i j = x := ⟨_, rfl⟩
                  rw [hp] at rp
                  rw [hx] at gL HFT
                  rw [hy] at gM HFT
                  obtain ⟨ph, hph⟩ : ∃ ph, (p + x.2 - y.2) % 360 = ph := ⟨_, rfl⟩
                  have HPH2 := Lib.hid (show (Vm.pf P i + Vm.ft N L M i j) % 360 = ph by rw [hp, HFT.out, ← hph]; congr 1; omega)
                  have HC := Lib.hid (show ∀ W, RI W bp P → W.cell? ⟨bp, i, none⟩ = some (.int .i64 p) from fun W hW => (hW.cell (j := i) (by rw [HSp.out.pl]; exact hiN)).trans (by rw [hp]))
                  have HJ := Lib.hid (show ∀ W, RI W bp P → (∃ u, W.cell? ⟨bp, j, none⟩ = some u) ∧ W.frozen? ⟨bp, j, none⟩ = false from fun W hW => ⟨⟨_, hW.cell (j := j) (by rw [HSp.out.pl]; exact hjN)⟩, hW.frozen j⟩)
                  have HPH := Lib.hid hph
                  have HX := Lib.hid hx
                  have HY := Lib.hid hy
                  obtain ⟨rp1, rp2⟩ := rp
                  have hw1 : IntKind.i64.wrap (p + x.2) = p + x.2 := IntWalk.i64_in _ (by omega)
                  have hw2 : IntKind.i64.wrap (p + x.2 - y.2) = p + x.2 - y.2 := IntWalk.i64_in _ (by omega)
                  clear hp hx hy hph HFT
                  go_wp2_with (go_at_call 74; refine (sBaseIndex_any _ _ _ _).mono ?_; rintro e w' ⟨rfl, rfl⟩; rw [HQ.out])
                  have hG1 := hG.setK j true
                  obtain ⟨W1, hW1⟩ : ∃ W, wr.setCell ⟨bk, j, none⟩ (.bool true) = W := ⟨_, rfl⟩
                  rw [hW1] at hG1 ⊢
                  clear hW1 hG cki ckj fkj hcf
                  have hGd := hG1.after (Below.drew (b0 W1))
                  refine wp_region_held_drew (S := fun W' => W'.cell? ⟨bp, i, none⟩ = some (.int .i64 p)) (by kernel_rfl) (HC.out _ hGd.ri) (fun hS => ?_)
                  refine wpAnyH_take (i := 0) (v := .slice (some ⟨bp, 0, none⟩) N N) rfl (by kernel_rfl) (by kernel_rfl) (by kernel_rfl) (fun _ _ _ h => h) (Or.inl ⟨by rfl, fun ww hSw => ?_⟩) hS ?_
                  · have hw1 : IntKind.i64.wrap (p + x.2) = p + x.2 := IntWalk.i64_in _ (by omega); have hw2 : IntKind.i64.wrap (p + x.2 - y.2) = p + x.2 - y.2 := IntWalk.i64_in _ (by omega); go_simp
                  refine wpAnyH_take (i := 1) (v := .int .i64 j) rfl (by kernel_rfl) (by kernel_rfl) (by kernel_rfl) (fun _ _ _ h => h) (Or.inl ⟨by rfl, fun ww hSw => ?_⟩) hS ?_
                  · have hw1 : IntKind.i64.wrap (p + x.2) = p + x.2 := IntWalk.i64_in _ (by omega); have hw2 : IntKind.i64.wrap (p + x.2 - y.2) = p + x.2 - y.2 := IntWalk.i64_in _ (by omega); go_simp
                  refine wpAnyH_take (i := 2) (v := .slice (some ⟨bp, 0, none⟩) N N) rfl (by kernel_rfl) (by kernel_rfl) (by kernel_rfl) (fun _ _ _ h => h) (Or.inl ⟨by rfl, fun ww hSw => ?_⟩) hS ?_
                  · have hw1 : IntKind.i64.wrap (p + x.2) = p + x.2 := IntWalk.i64_in _ (by omega); have hw2 : IntKind.i64.wrap (p + x.2 - y.2) = p + x.2 - y.2 := IntWalk.i64_in _ (by omega); go_simp
                  refine wpAnyH_take (i := 3) (v := .int .i64 i) rfl (by kernel_rfl) (by kernel_rfl) (by kernel_rfl) (fun _ _ _ h => h) (Or.inl ⟨by rfl, fun ww hSw => ?_⟩) hS ?_
                  · have hw1 : IntKind.i64.wrap (p + x.2) = p + x.2 := IntWalk.i64_in _ (by omega); have hw2 : IntKind.i64.wrap (p + x.2 - y.2) = p + x.2 - y.2 := IntWalk.i64_in _ (by omega); go_simp
                  refine wpAnyH_take (i := 4) (v := .pointer (some ⟨bp, i, none⟩)) rfl (by kernel_rfl) (by kernel_rfl) (by kernel_rfl) (fun _ _ _ h => h) (Or.inl ⟨by rfl, fun ww hSw => ?_⟩) hS ?_
                  · have hw1 : IntKind.i64.wrap (p + x.2) = p + x.2 := IntWalk.i64_in _ (by omega); have hw2 : IntKind.i64.wrap (p + x.2 - y.2) = p + x.2 - y.2 := IntWalk.i64_in _ (by omega); go_simp
                  refine wpAnyH_take (i := 5) (v := .int .i64 p) rfl (by kernel_rfl) (by kernel_rfl) (by kernel_rfl) (fun _ _ _ h => h) (Or.inl ⟨by rfl, fun ww hSw => ?_⟩) hS ?_
                  · have hw1 : IntKind.i64.wrap (p + x.2) = p + x.2 := IntWalk.i64_in _ (by omega); have hw2 : IntKind.i64.wrap (p + x.2 - y.2) = p + x.2 - y.2 := IntWalk.i64_in _ (by omega); go_simp
                  refine wpAnyH_take (i := 6) (v := .int .i64 N) rfl (by kernel_rfl) (by kernel_rfl) (by kernel_rfl) (fun _ _ _ h => h) (Or.inl ⟨by rfl, fun ww hSw => ?_⟩) hS ?_
                  · have hw1 : IntKind.i64.wrap (p + x.2) = p + x.2 := IntWalk.i64_in _ (by omega); have hw2 : IntKind.i64.wrap (p + x.2 - y.2) = p + x.2 - y.2 := IntWalk.i64_in _ (by omega); go_simp
                  refine wpAnyH_take (i := 7) (v := .slice A m c) rfl (by kernel_rfl) (by kernel_rfl) (by kernel_rfl) (fun _ _ _ h => h) (Or.inl ⟨by rfl, fun ww hSw => ?_⟩) hS ?_
                  · have hw1 : IntKind.i64.wrap (p + x.2) = p + x.2 := IntWalk.i64_in _ (by omega); have hw2 : IntKind.i64.wrap (p + x.2 - y.2) = p + x.2 - y.2 := IntWalk.i64_in _ (by omega); go_simp
                  refine wpAnyH_take (i := 8) (v := .int .i64 i) rfl (by kernel_rfl) (by kernel_rfl) (by kernel_rfl) (fun _ _ _ h => h) (Or.inl ⟨by rfl, fun ww hSw => ?_⟩) hS ?_
                  · have hw1 : IntKind.i64.wrap (p + x.2) = p + x.2 := IntWalk.i64_in _ (by omega); have hw2 : IntKind.i64.wrap (p + x.2 - y.2) = p + x.2 - y.2 := IntWalk.i64_in _ (by omega); go_simp
                  refine wpAnyH_take (i := 9) (v := .int .i64 j) rfl (by kernel_rfl) (by kernel_rfl) (by kernel_rfl) (fun _ _ _ h => h) (Or.inl ⟨by rfl, fun ww hSw => ?_⟩) hS ?_
                  · have hw1 : IntKind.i64.wrap (p + x.2) = p + x.2 := IntWalk.i64_in _ (by omega); have hw2 : IntKind.i64.wrap (p + x.2 - y.2) = p + x.2 - y.2 := IntWalk.i64_in _ (by omega); go_simp
                  refine wpAnyH_take (i := 13) (v := .int .i64 N) rfl (by kernel_rfl) (by kernel_rfl) (by kernel_rfl) (fun _ _ _ h => h) (Or.inl ⟨by rfl, fun ww hSw => ?_⟩) hS ?_
                  · have hw1 : IntKind.i64.wrap (p + x.2) = p + x.2 := IntWalk.i64_in _ (by omega); have hw2 : IntKind.i64.wrap (p + x.2 - y.2) = p + x.2 - y.2 := IntWalk.i64_in _ (by omega); go_simp
                  refine wpAnyH_take (i := 14) (v := .slice A' m' c') rfl (by kernel_rfl) (by kernel_rfl) (by kernel_rfl) (fun _ _ _ h => h) (Or.inl ⟨by rfl, fun ww hSw => ?_⟩) hS ?_
                  · have hw1 : IntKind.i64.wrap (p + x.2) = p + x.2 := IntWalk.i64_in _ (by omega); have hw2 : IntKind.i64.wrap (p + x.2 - y.2) = p + x.2 - y.2 := IntWalk.i64_in _ (by omega); go_simp
                  refine wpAnyH_take (i := 15) (v := .int .i64 i) rfl (by kernel_rfl) (by kernel_rfl) (by kernel_rfl) (fun _ _ _ h => h) (Or.inl ⟨by rfl, fun ww hSw => ?_⟩) hS ?_
                  · have hw1 : IntKind.i64.wrap (p + x.2) = p + x.2 := IntWalk.i64_in _ (by omega); have hw2 : IntKind.i64.wrap (p + x.2 - y.2) = p + x.2 - y.2 := IntWalk.i64_in _ (by omega); go_simp
                  refine wpAnyH_take (i := 16) (v := .int .i64 j) rfl (by kernel_rfl) (by kernel_rfl) (by kernel_rfl) (fun _ _ _ h => h) (Or.inl ⟨by rfl, fun ww hSw => ?_⟩) hS ?_
                  · have hw1 : IntKind.i64.wrap (p + x.2) = p + x.2 := IntWalk.i64_in _ (by omega); have hw2 : IntKind.i64.wrap (p + x.2 - y.2) = p + x.2 - y.2 := IntWalk.i64_in _ (by omega); go_simp
                  refine wpAnyH_ready (rs := [10]) (by kernel_rfl) (by simp) ?_
                  refine AllReadyH.cons rfl (fun K hK => ?_) AllReadyH.nil
                  go_simp
                  refine (l11Get_any A m c N i j L _ (h.sg hGd) HVL.out (by omega) (by omega) (by omega)).mono ?_
                  rintro e w5 ⟨rfl, hb5⟩
                  have hG5 := hGd.after hb5
                  rw [HX.out]
                  unfold gv
                  refine hK.out _ _ (HC.out _ hG5.ri) (fun hS => ?_)
                  clear hK K
                  refine wpAnyH_take (i := 11) (v := .int .i64 x.2) rfl (by kernel_rfl) (by kernel_rfl) (by kernel_rfl) (fun _ _ _ h => h) (Or.inl ⟨by rfl, fun ww hSw => ?_⟩) hS ?_
                  · have hw1 : IntKind.i64.wrap (p + x.2) = p + x.2 := IntWalk.i64_in _ (by omega); have hw2 : IntKind.i64.wrap (p + x.2 - y.2) = p + x.2 - y.2 := IntWalk.i64_in _ (by omega); go_simp
                  refine wpAnyH_take (i := 12) (v := .int .i64 (p + x.2)) rfl (by kernel_rfl) (by kernel_rfl) (by kernel_rfl) (fun _ _ _ h => h) (Or.inl ⟨by rfl, fun ww hSw => ?_⟩) hS ?_
                  · have hw1 : IntKind.i64.wrap (p + x.2) = p + x.2 := IntWalk.i64_in _ (by omega); have hw2 : IntKind.i64.wrap (p + x.2 - y.2) = p + x.2 - y.2 := IntWalk.i64_in _ (by omega); go_simp
                  refine wpAnyH_ready (rs := [17]) (by kernel_rfl) (by simp) ?_
                  refine AllReadyH.cons rfl (fun K hK => ?_) AllReadyH.nil
                  go_simp
                  refine (l11Get_any A' m' c' N i j M _ (h'.sg hG5) HVM.out (by omega) (by omega) (by omega)).mono ?_
                  rintro e w6 ⟨rfl, hb6⟩
                  have hG6 := hG5.after hb6
                  rw [HY.out]
                  unfold gv
                  refine hK.out _ _ (HC.out _ hG6.ri) (fun hS => ?_)
                  clear hK K
                  refine wpAnyH_take (i := 18) (v := .int .i64 y.2) rfl (by kernel_rfl) (by kernel_rfl) (by kernel_rfl) (fun _ _ _ h => h) (Or.inl ⟨by rfl, fun ww hSw => ?_⟩) hS ?_
                  · have hw1 : IntKind.i64.wrap (p + x.2) = p + x.2 := IntWalk.i64_in _ (by omega); have hw2 : IntKind.i64.wrap (p + x.2 - y.2) = p + x.2 - y.2 := IntWalk.i64_in _ (by omega); go_simp
                  refine wpAnyH_take (i := 19) (v := .int .i64 (p + x.2 - y.2)) rfl (by kernel_rfl) (by kernel_rfl) (by kernel_rfl) (fun _ _ _ h => h) (Or.inl ⟨by rfl, fun ww hSw => ?_⟩) hS ?_
                  · have hw1 : IntKind.i64.wrap (p + x.2) = p + x.2 := IntWalk.i64_in _ (by omega); have hw2 : IntKind.i64.wrap (p + x.2 - y.2) = p + x.2 - y.2 := IntWalk.i64_in _ (by omega); go_simp
                  refine wpAnyH_ready (rs := [20]) (by kernel_rfl) (by simp) ?_
                  refine AllReadyH.cons rfl (fun K hK => ?_) AllReadyH.nil
                  go_simp
                  refine (sPhaseOf_any _ _).mono ?_
                  rintro e w' ⟨rfl, rfl⟩
                  rw [HPH.out]
                  obtain ⟨⟨u, uj⟩, fj⟩ := HJ.out _ hG6.ri
                  refine hK.out _ _ hS (fun hS => ?_)
                  clear hK K
                  refine wpAnyH_take (i := 21) (v := .pointer (some ⟨bp, j, none⟩)) rfl (by kernel_rfl) (by kernel_rfl) (by kernel_rfl) (fun _ _ _ h => h) (Or.inl ⟨by rfl, fun ww hSw => ?_⟩) hS ?_
                  · have hw1 : IntKind.i64.wrap (p + x.2) = p + x.2 := IntWalk.i64_in _ (by omega); have hw2 : IntKind.i64.wrap (p + x.2 - y.2) = p + x.2 - y.2 := IntWalk.i64_in _ (by omega); go_simp
                  refine wpAnyH_ready (rs := [22]) (by kernel_rfl) (by simp) ?_
                  refine AllReadyH.cons rfl (fun K hK => ?_) AllReadyH.nil
                  go_simp
                  refine hK.out _ _ ((World.cell?_setCell_other _ _ _ _ (by simp)).trans hS) (fun hS => ?_)
                  clear hK K
                  refine ⟨by kernel_rfl, ?_⟩
                  clear hw1 hw2 hS uj fj
                  have hSp9 := HSp.out.set HKI.out hjN HE.out
                  have hSd9 := HSd.out.set (j := j) (by rw [HSp.out.kl]; exact hjN) HKI.out HE.out
                  rw [HPH2.out] at hSp9
                  have HSp9 := Lib.hid hSp9
                  have HSd9 := Lib.hid hSd9
                  have hG9 := hG6.setP j ph
                  clear hSp9 hSd9 hG1 hGd hG5 hG6
                  go_wp2_with fail
                  go_roundw
                  case rel => exact ⟨j + 1, K.set j true, P.set j ph, by omega, by go_num, HSp9.out, HSd9.out, hG9⟩
                  case measure => simp [intOf]; omega
                · rw [hkj] at ckj
                  have hst := Lib.hid (HSd.out.skip (fun _ _ => hkj))
                  clear hkj
                  go_wp2_with (go_at_call 74; refine (sBaseIndex_any _ _ _ _).mono ?_; rintro e w' ⟨rfl, rfl⟩; rw [HQ.out])
                  go_roundw
                  case rel => exact ⟨j + 1, K, P, by omega, by go_num, HSp.out, hst.out, hG⟩
                  case measure => simp [intOf]; omega
            · have hst := Lib.hid (HSd.out.skip (fun he => by rw [hfe0] at he; cases he))
              clear hfe0
              go_wp2_with (go_at_call 74; refine (sBaseIndex_any _ _ _ _).mono ?_; rintro e w' ⟨rfl, rfl⟩; rw [HQ.out])
              go_roundw
              case rel => exact ⟨j + 1, K, P, by omega, by go_num, HSp.out, hst.out, hG⟩
              case measure => simp [intOf]; omega
        · have hje : j = N := by omega
          subst hje
          have hst := Lib.hid (HSd.out.row HN.out)
          go_wp2_with fail
          go_roundw
          case rel => exact ⟨i + 1, K, P, by omega, by go_num, HSp.out, hst.out, hG⟩
          case measure => simp [intOf]; omega
    · have hie : i = N := by omega
      subst hie
      have H : Hid (SprPost i (Vm.fe i F) (Vm.ft i L M) B bp bk K0 w (.returned (.tuple #[])) wr) := ⟨⟨_, rfl⟩, K, P, hSp, hSd.spr HN.out, hG⟩
      clear hSp hSd hG
      go_wp2_with fail
      go_end0
      exact H.out

theorem FlagPost.lit {n : Int} {L M : List (Int × Int)} {F : List Bool} {w w' : World} (h : Vm.FlagRes n L M F false []) (hB : Below w.heap.size w w') : FlagPost n L M F w (.returned (.tuple #[.slice (some ⟨w'.heap.size, 0, none⟩) 0 0, .bool false])) (w'.alloc (.cells #[] 3)) :=
  ⟨_, _, [], rfl, h, World.ownsRow_lit w' #[] 0 hB.size (by decide) rfl, bA hB _⟩
def g1 (N : Nat) (e : Nat → Nat → Bool) (t : Nat → Nat → Int) (bp bk : Nat) (w : World) (v : Value) (wr : World) : Prop :=
  ∃ (i : Nat) (K : List Bool) (P : List Int), i ≤ N ∧ v = .int .i64 i ∧ Vm.Sp N e t K P ∧ Vm.Shut e (Vm.kf K) ∧ (∀ q, q < i → Vm.kf K q = true) ∧ Sg w.heap.size bp bk K P w wr
def g2 (N : Nat) (e : Nat → Nat → Bool) (t : Nat → Nat → Int) (bp bk : Nat) (w : World) (i : Nat) (v : Value) (wr : World) : Prop :=
  ∃ (r : Nat) (K : List Bool) (P : List Int), r ≤ N ∧ v = .int .i64 r ∧ Vm.Sp N e t K P ∧ Vm.Rnd N e r (Vm.kf K) ∧ (∀ q, q < i + 1 → Vm.kf K q = true) ∧ Sg w.heap.size bp bk K P w wr
set_option maxRecDepth 100000 in
set_option maxHeartbeats 8000000 in
theorem sFlagSolve_ok (A A' A'' : Option Addr) (m c m' c' m'' c'' N : Nat) (L M : List (Int × Int)) (F : List Bool) (w : World) (h : Rd w w.heap.size 2 A m c (cp L)) (h' : Rd w w.heap.size 2 A' m' c' (cp M)) (h'' : Rd w w.heap.size 1 A'' m'' c'' (cbo F))
    (hL : Vm.Ok N L) (hM : Vm.Ok N M) (hF : F.length = N * (N - 1) / 2) : Calls Try.prog 15 #[.int .i64 N, .slice A m c, .slice A' m' c', .slice A'' m'' c''] w (FlagPost N L M F w) := by
  have N2 := hL.lo
  have N7 := hL.hi
  have hmany : Vm.manyB (N : Int) = true := (Vm.manyB_iff _).2 (by omega)
  have hbm := Vm.bmany_nat N hmany
  have HTW := Lib.hid (show twoB N L M = true by simp [twoB, hL.to, hM.to])
  have HOK := Lib.hid (show okF N F = true by simp [okF, hmany, hbm, hF])
  have HN := Lib.hid (Vm.flag_net F hL hM)
  have HF := Lib.hid hF
  have HL := Lib.hid hL
  have HM := Lib.hid hM
  have hmkI := fun w => makeI w N (by omega)
  have hmkB := fun w => makeB w N (by omega)
  have hG0 : Sg w.heap.size w.heap.size (w.heap.size + 1) (List.replicate N false) (List.replicate N 0) w ((w.alloc (.cells (ci (List.replicate N 0)).toArray 3)).alloc (.cells (cbo (List.replicate N false)).toArray 4)) := by
    refine ⟨(new_RI w _).after (bA (b0 _) _), ?_, bA (bA (b0 w) _) _, Nat.le_refl _, by omega⟩
    have := new_RB (w.alloc (.cells (ci (List.replicate N 0)).toArray 3)) (List.replicate N false)
    simpa using this
  clear hL hM hF hbm hmany
  go_enter Try.func15, Try.ntmps15
  go_wp2_with (first
    | (go_at_call 51; refine (l15Two_any _ _ _ _ _ _ N L M _ h h').mono ?_; rintro e w' ⟨rfl, rfl⟩; rw [HTW.out])
    | (go_at_call 52; refine (l16Ok_any _ _ _ N F _ h'').mono ?_; rintro e w' ⟨rfl, rfl⟩; rw [HOK.out]))
  clear hmkI hmkB
  obtain ⟨W0, hW0⟩ : ∃ W, ((w.alloc (.cells (ci (List.replicate N 0)).toArray 3)).alloc (.cells (cbo (List.replicate N false)).toArray 4)) = W := ⟨_, rfl⟩
  rw [hW0] at hG0 ⊢
  clear hW0
  obtain ⟨bk, hbk⟩ : ∃ b, w.heap.size + 1 = b := ⟨_, rfl⟩
  rw [hbk] at hG0 ⊢
  obtain ⟨bp, hbp⟩ : ∃ b, w.heap.size = b := ⟨_, rfl⟩
  have hG0' : Sg w.heap.size bp bk (List.replicate N false) (List.replicate N 0) w W0 := by rw [← hbp]; exact hG0
  clear hG0
  have HBP := Lib.hid hbp
  have hgoal : ∀ X Y : Value, X = .pointer (some ⟨w.heap.size, 0, none⟩) → Y = .pointer (some ⟨bp, 0, none⟩) → X = Y := fun X Y h1 h2 => by rw [h1, h2, hbp]
  clear hgoal
  rw [show (Value.slice (some ⟨w.heap.size, 0, none⟩) N N) = .slice (some ⟨bp, 0, none⟩) N N by rw [hbp]]
  clear hbk
  clear hbp
  go_loopw [12] (fun v wr => g1 N (Vm.fe N F) (Vm.ft N L M) bp bk w v wr) (fun v _ => N - (intOf v).toNat)
  case atStart => exact ⟨0, _, _, Nat.zero_le _, rfl, Vm.Sp.start _ _ _, Vm.shut_start _ _, fun q hq => absurd hq (by omega), hG0'⟩
  case round =>
    clear hG0'
    obtain ⟨i, K, P, hi, rfl, hSp, hSh, hall, hG⟩ := hrel
    by_cases hiN : i < N
    · have ck := hG.rb.cell (j := i) (by rw [hSp.kl]; exact hiN)
      have fk := hG.rb.frozen i
      obtain ⟨hSp2, hRn2, hk2, hmo2⟩ := hSp.root HN.out hSh hiN hall
      have hall2 : ∀ q, q < i + 1 → Vm.kf (K.set i true) q = true := fun q hq => by
        by_cases e : q = i
        · subst e; exact hk2
        · exact hmo2 q (hall q (by omega))
      have HSp2 := Lib.hid hSp2
      have HRn2 := Lib.hid hRn2
      have HA2 := Lib.hid hall2
      have hG2 := hG.setK i true
      clear hSp hSh hall hSp2 hRn2 hk2 hmo2 hall2 hG
      go_wp2_with fail
      go_loopw [13] (fun v wr => g2 N (Vm.fe N F) (Vm.ft N L M) bp bk w i v wr) (fun v _ => N - (intOf v).toNat)
      case atStart => exact ⟨0, _, P, Nat.zero_le _, rfl, HSp2.out, HRn2.out, HA2.out, hG2⟩
      case round =>
        clear HSp2 HRn2 HA2 ck fk
        clear hG2
        obtain ⟨r, K, P, hr, rfl, hSp0, hRn0, hall0, hG⟩ := hrel
        have HSp := Lib.hid hSp0
        have HRn := Lib.hid hRn0
        have HA := Lib.hid hall0
        clear hSp0 hRn0 hall0
        by_cases hrN : r < N
        · go_wp2_with fail
          refine (l16Spread_any A A' A'' m c m' c' m'' c'' N w.heap.size bp bk L M F K P wr (h.below hG.below) (h'.below hG.below) (h''.below hG.below) HL.out HM.out HF.out HSp.out hG.here).mono ?_
          rintro e w5 ⟨⟨v, rfl⟩, K', P', hSp5, hSr5, hG5⟩
          have hG6 := hG.next hG5
          have hRn6 := HRn.out.next HN.out hSr5
          have hall6 : ∀ q, q < i + 1 → Vm.kf K' q = true := fun q hq => hSr5.more q (HA.out q hq)
          have HSp6 := Lib.hid hSp5
          have HRn6 := Lib.hid hRn6
          have HA6 := Lib.hid hall6
          clear hSp5 hSr5 hG5 hRn6 hall6
          clear hG
          go_wp2_with fail
          go_roundw
          case rel => exact ⟨r + 1, K', P', by omega, by go_num, HSp6.out, HRn6.out, HA6.out, hG6⟩
          case measure => simp [intOf]; omega
        · have hre : r = N := by omega
          subst hre
          have hsh := Lib.hid HRn.out.done
          go_wp2_with fail
          go_roundw
          case rel => exact ⟨i + 1, K, P, by omega, by go_num, HSp.out, hsh.out, HA.out, hG⟩
          case measure => simp [intOf]; omega
    · have hie : i = N := by omega
      subst hie
      have hown : wr.ownsRow w.heap.size 3 1 (.slice (some ⟨bp, 0, none⟩) i i) P.length (ci P) := by
        have := hG.ri.own (base := w.heap.size) hG.lo (by rw [hSp.pl]; omega)
        rw [hSp.pl] at this ⊢
        exact this
      have hrd : Rd wr wr.heap.size 1 (some ⟨bp, 0, none⟩) i i (ci P) := by
        have := hown
        rw [hSp.pl] at this
        exact Rd.of_own this
      have hB := hG.below
      have HSp := Lib.hid hSp
      have HA := Lib.hid hall
      clear hSp hSh hall hG
      go_wp2_with fail
      refine (l16Fits_any A A' A'' (some ⟨bp, 0, none⟩) m c m' c' m'' c'' i i L M F P _ ((h.below hB).more hB.size) ((h'.below hB).more hB.size) ((h''.below hB).more hB.size) hrd HL.out HM.out HF.out HSp.out.rng).mono ?_
      rintro e w9 ⟨b, rfl, hb, hB9⟩
      have hv : ∀ j, j < i → Vm.Val (Vm.fe i F) (Vm.ft i L M) j (Vm.pf P j) := fun j hj => HSp.out.val j (HA.out j hj)
      have hBB := bT hB hB9
      cases b
      · have hres : Hid (Vm.FlagRes i L M F false []) := Vm.res_no (fun hp => by
          have hpot := fits_of_pot HN.out hv hp
          have : (false = true) := hb.2 (fun a b _ hb2 he => hpot a b he)
          cases this)
        clear hb hv hown hrd
        go_wp2_with fail
        go_ret2
        exact FlagPost.lit hres.out hBB
      · have hpot : Vm.Pot (Vm.fe i F) (Vm.ft i L M) (Vm.pf P) := Vm.pot_fits HN.out (fun a b h1 h2 he => hb.1 rfl a b h1 h2 he) (fun a b he => ((Vm.fe_iff _ _ _ _).1 he).2.2.1)
        have H : Hid (FlagPost i L M F w (.returned (.tuple #[.slice (some ⟨bp, 0, none⟩) i i, .bool true])) w9) := ⟨_, _, P, rfl, Vm.res_yes HL.out HM.out HF.out HSp.out.pl hv hpot, own_after hown hB9, hBB⟩
        clear hb hv hown hrd hpot
        go_wp2_with fail
        go_ret2
        exact H.out

end Go.Proofs.Ytmoeofclpnblmaa
