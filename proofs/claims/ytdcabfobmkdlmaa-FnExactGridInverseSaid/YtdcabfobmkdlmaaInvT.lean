/- Contracts: the reference's inverse of a grid: the walk. -/
import Derived.Test.YtdcabfobmkdlmaaInvS
import Derived.Deep.RegionHeld
import Derived.Maps.AppendAt
import Derived.Laws.EntriesVeiled
namespace Go.Proofs.Ytdcabfobmkdlmaa
open Go.RowKit

attribute [local go_sem] Oper.semAt_some

theorem infoI : (Try.prog.info? 3).map (fun i => (i.zero, i.size, i.bytes)) = some (some (.int .i64 0), 1, 8) := by kernel_rfl
def invN (G : List (Int × Int)) (m : Nat) : List Int := (List.range m).map fun x => (invT G x).1 / 16
theorem invN_succ (G : List (Int × Int)) (m : Nat) : ci (invN G (m + 1)) = ci (invN G m) ++ [.int .i64 ((invT G m).1 / 16)] := by simp [invN, List.range_succ, ci]
theorem invN_len (G : List (Int × Int)) (m : Nat) : (invN G m).length = m := by simp [invN]
theorem InvPost.nil {G : List (Int × Int)} {w w' : World} (h : invB G = false) (hB : Below w.heap.size w w') (g : Nat) (hg : g = w'.heap.size) : InvPost G w (.returned (.tuple #[.slice (some ⟨g, 0, none⟩) 0 0, .bool false])) (w'.alloc (.cells #[] 3)) := by
  subst hg
  exact ⟨_, by rw [h], by rw [invL_no h]; exact World.ownsRow_lit _ #[] 0 hB.size (by decide) rfl, bA hB _⟩
def ivRel (G : List (Int × Int)) (w : World) (vo v : Value) (wr : World) : Prop := ∃ k : Nat, k ≤ 16 ∧ v = .int .i64 k ∧ Hid (∀ x, x < k → (invT G x).2 = 0 ∧ (invT G x).1 % 16 = 0) ∧ wr.ownsRow w.heap.size 3 1 vo k (ci (invN G k)) ∧ Below w.heap.size w wr
set_option maxHeartbeats 4000000 in
theorem sGridInverse_any (A : Option Addr) (n c : Nat) (G : List (Int × Int)) (w : World) (h : Rd w w.heap.size 2 A n c (cp G)) :
    Calls Try.prog 26 #[.slice A n c] w (InvPost G w) := by
  have hO0 : (w.alloc (.cells #[] 3)).ownsRow w.heap.size 3 1 (.slice (some ⟨w.heap.size, 0, none⟩) 0 0) 0 [] := World.ownsRow_lit w #[] 0 (Nat.le_refl _) (by decide) rfl
  have hrA := h.after (bA (b0 w) (.cells #[] 3))
  cases hg : gridB G
  · have H := Lib.hid (inv_no1 hg)
    have HG := Lib.hid hg
    clear hg
    go_enter Try.func26, Try.ntmps26
    go_wp2_with fail
    refine (sGridValid_any _ _ _ G _ hrA).mono ?_
    rintro e w1 ⟨rfl, hB1⟩
    rw [HG.out]
    have hO1 := own_after hO0 hB1
    go_wp2_with fail
    go_ret2
    exact ⟨.slice (some ⟨w.heap.size, 0, none⟩) 0 0, by rw [H.out]; rfl, by rw [invL_no H.out]; exact hO1, bT (bA (b0 w) _) hB1⟩
  · have HG := Lib.hid hg
    have hl := gridB_len hg
    have HLn := Lib.hid hl
    have hn := h.len
    rw [cp_length, hl] at hn
    have hn16 : n = 16 := by omega
    subst hn16
    clear hg hl hn
    obtain ⟨i0, hi, hz0, hz1, hz2⟩ := info_parts infoI
    go_enter Try.func26, Try.ntmps26
    go_wp2_with fail
    refine (sGridValid_any _ _ _ G _ hrA).mono ?_
    rintro e w1 ⟨rfl, hB1⟩
    rw [HG.out]
    have hO1 := own_after hO0 hB1
    have hBB := bT (bA (b0 w) (.cells #[] 3)) hB1
    clear hO0 hB1 hrA
    go_wp2_with fail
    go_loopw [4, 5, 6] (fun vo v _ wr => ivRel G w vo v wr) (fun _ v _ _ => 16 - (intOf v).toNat)
    case atStart => exact ⟨0, Nat.zero_le _, rfl, fun x hx => by omega, hO1, hBB⟩
    case round =>
      clear hO1 hBB w1
      obtain ⟨k, hk, rfl, hall, hown, hB⟩ := hrel
      by_cases hlt : k < 16
      · obtain ⟨Av, cv, rfl⟩ := own_form hown
        have hi0 : (0 : Int) ≤ (k : Int) := by omega
        have hi1 : (k : Int) < 16 := by omega
        have hd : decide ((k : Int) < 16) = true := by simp; omega
        have HM := Lib.hid (show ((k : Int) % 4) = ((k % 4 : Nat) : Int) by omega)
        have HD := Lib.hid (show ((k : Int) / 4) = ((k / 4 : Nat) : Int) by omega)
        have HE := Lib.hid (show 4 * (k / 4) + k % 4 = k by omega)
        have hrk := h.after hB
        go_wp2_with (go_at_call 40; refine (l21Cells_any _).mono ?_; rintro e w' ⟨rfl, rfl⟩)
        rw [HM.out, HD.out]
        refine (l21Back_any A c (k % 4) (k / 4) G _ hrk HG.out (by omega) (by omega)).mono ?_
        rintro e w2 ⟨rfl, hb2⟩
        rw [HE.out]
        have hown2 := own_after hown hb2
        have hB2 := bT hB hb2
        have hNo := fun hn => @inv_no2 G k hlt hn
        have hpb := inv_bd HG.out k
        have hnx : (invT G k).2 = 0 ∧ (invT G k).1 % 16 = 0 → ∀ x, x < k + 1 → (invT G x).2 = 0 ∧ (invT G x).1 % 16 = 0 := fun hh x hx => by
          by_cases e : x = k
          · rw [e]; exact hh
          · exact hall.out x (by omega)
        have HN := Lib.hid hnx
        have HS := Lib.hid (invN_succ G k)
        obtain ⟨p, hp⟩ : ∃ p, invT G k = p := ⟨_, rfl⟩
        rw [hp] at hNo hpb HN HS ⊢
        obtain ⟨pb1, pb2⟩ := hpb
        unfold gv
        clear hp hnx hown hb2 hB
        by_cases him : p.2 = 0
        · have hd1 : (p.2 != 0) = false := by simp [him]
          by_cases hre : p.1 % 16 = 0
          · obtain ⟨t1, t2⟩ := tdiv16 hre
            have hd2 : (p.1.tmod 16 != 0) = false := by simp [t1]
            have HA := Lib.hid (HN.out ⟨him, hre⟩)
            clear hNo him hre t1
            go_wp2_with fail
            go_quiet ((go_at_call 40; exact Calls.quiet_of_same ((l21Cells_any _).mono (fun _ _ ⟨h1, h2⟩ => ⟨h1, h2.symm⟩))))
            go_wp2_with fail
            obtain ⟨W, hW⟩ : ∃ W, (w2.alloc (.cells #[.int .i64 p.1, .int .i64 p.2] 32)).drewN nq = W := ⟨_, rfl⟩
            have hownW : W.ownsRow w.heap.size 3 1 (.slice Av k cv) k (ci (invN G k)) := by rw [← hW]; exact hown2.alloc _
            have hBW : Below w.heap.size w W := by rw [← hW]; exact bD (bA hB2 _) nq
            have hpW : W.cell? ⟨w2.heap.size, 0, none⟩ = some (.int .i64 p.1) := by rw [← hW]; show (w2.alloc (.cells #[.int .i64 p.1, .int .i64 p.2] 32)).cell? _ = _; simp [go_sem]
            have hBd : Below w.heap.size w (W.alloc (.cells #[.int .i64 (p.1.tdiv 16)] 3)).drew := Below.drew (bA hBW _)
            have u1 : IntKind.i64.wrap (p.1.tdiv 16) = p.1.tdiv 16 := IntWalk.i64_in _ (by rw [t2]; omega)
            have hne : some w2.heap.size ≠ (Value.slice Av k cv).ownBlock := fun e => Nat.lt_irrefl _ (hown2.lt _ e.symm).2
            have hsW := hBW.size
            have t3 : -16000000000 ≤ p.1.tdiv 16 := by rw [t2]; omega
            have t4 : p.1.tdiv 16 ≤ 16000000000 := by rw [t2]; omega
            have T2 := Lib.hid t2
            rw [hW]
            clear hW t2 hd1 hd2
            --R10
            refine wp_region_held_drew (S := fun W' => W'.cell? ⟨w2.heap.size, 0, none⟩ = some (.int .i64 p.1)) (by kernel_rfl) hpW (fun hS => ?_)
            refine wpAnyH_take (i := 0) (v := .slice Av k cv) rfl (by kernel_rfl) (by kernel_rfl) (by kernel_rfl) (fun _ _ _ h => h) (Or.inl ⟨by rfl, fun ww hSw => ?_⟩) hS ?_
            · have e1 := hSw; go_simp
            refine wpAnyH_take (i := 1) (v := .pointer (some ⟨w2.heap.size, 0, none⟩)) rfl (by kernel_rfl) (by kernel_rfl) (by kernel_rfl) (fun _ _ _ h => h) (Or.inl ⟨by rfl, fun ww hSw => ?_⟩) hS ?_
            · have e1 := hSw; go_simp
            refine wpAnyH_take (i := 2) (v := .int .i64 (p.1)) rfl (by kernel_rfl) (by kernel_rfl) (by kernel_rfl) (fun _ _ _ h => h) (Or.inl ⟨by rfl, fun ww hSw => ?_⟩) hS ?_
            · have e1 := hSw; go_simp
            refine wpAnyH_ready (rs := [3]) (by kernel_rfl) (by simp) ?_
            refine AllReadyH.cons rfl (fun K hK => ?_) AllReadyH.nil
            go_simp
            refine (l21Cells_any _).mono ?_
            rintro e w' ⟨rfl, rfl⟩
            refine hK.out _ _ hS (fun hS => ?_)
            clear hK K
            refine wpAnyH_ready (rs := [4]) (by kernel_rfl) (by simp) ?_
            refine AllReadyH.cons rfl (fun K hK => ?_) AllReadyH.nil
            go_simp
            refine hK.out _ _ hS (fun hS => ?_)
            clear hK K
            refine wpAnyH_ready (rs := [5]) (by kernel_rfl) (by simp) ?_
            refine AllReadyH.cons rfl (fun K hK => ?_) AllReadyH.nil
            go_simp
            refine hK.out _ _ ((World.cell?_alloc_past _ _ _ (block_lt_of_cell hS)).trans hS) (fun hS => ?_)
            clear hK K
            refine wpAnyH_ready (rs := [6]) (by kernel_rfl) (by simp) ?_
            refine AllReadyH.cons rfl (fun K hK => ?_) AllReadyH.nil
            have hr3 := (hownW.alloc (.cells #[.int .i64 (p.1.tdiv 16)] 3)).drew
            refine step_append_lies _ rfl (.tmp 34) (.tmp 39) 23 rfl w.heap.size 3 i0 _ 1 8 Try.underlying23 hi hz0 hz1 hz2 rfl (by decide) (.slice Av k cv) k (ci (invN G k)) rfl hr3 ⟨W.heap.size, 0, none⟩ 1 1 [.int .i64 (p.1.tdiv 16)] rfl rfl (new_cells _ _ _) (by intro u hu; simp at hu; subst hu; rfl) (by omega) (by unfold maxLen; omega) (by omega) (by simp; omega) _ rfl ?_
            intro g cap w3 hown3 hgrow3 hx1 hx2
            refine hK.out _ _ (hgrow3.cell hS hne) (fun hS => ?_)
            clear hK K
            refine wpAnyH_ready (rs := [7]) (by kernel_rfl) (by simp) ?_
            refine AllReadyH.cons rfl (fun K hK => ?_) AllReadyH.nil
            go_simp
            refine hK.out _ _ hS (fun hS => ?_)
            clear hK K
            refine ⟨by kernel_rfl, ?_⟩
            go_wp2_with fail
            go_roundw
            case rel => exact ⟨k + 1, by omega, by go_num, HA, by rw [HS.out, ← T2.out]; exact hown3, own_below (a := w) hBd hr3 hgrow3⟩
            case measure => simp [intOf]; omega
            --E10
          · have hd2 : (p.1.tmod 16 != 0) = true := by simp; exact tmod16 hre
            have H := Lib.hid (hNo (fun hh => hre hh.2))
            clear hNo him hre hown2
            go_wp2_with fail
            go_quiet ((go_at_call 40; exact Calls.quiet_of_same ((l21Cells_any _).mono (fun _ _ ⟨h1, h2⟩ => ⟨h1, h2.symm⟩))))
            go_wp2_with fail
            go_ret2
            exact InvPost.nil H.out (bD (bA hB2 _) _) _ (by simp)
        · have hd1 : (p.2 != 0) = true := by simp [him]
          have H := Lib.hid (hNo (fun hh => him hh.1))
          clear hNo him hown2
          go_wp2_with fail
          go_quiet (fail)
          go_wp2_with fail
          go_ret2
          exact InvPost.nil H.out (bD (bA hB2 _) _) _ (by simp)
      · have hke : k = 16 := by omega
        subst hke
        have hd : decide (((16 : Nat) : Int) < 16) = false := by decide
        have e16 : invN G 16 = invO G := rfl
        rw [e16] at hown
        have HSK := Lib.hid (inv_sky HG.out hall.out)
        obtain ⟨Av, cv, rfl⟩ := own_form hown
        clear e16
        go_wp2_with (go_at_call 40; refine (l21Cells_any _).mono ?_; rintro e w' ⟨rfl, rfl⟩)
        refine (sSkyValid_any _ _ _ (invO G) _ (Rd.of_own hown)).mono ?_
        rintro e w' ⟨rfl, rfl⟩
        have e16 : (invO G).length = 16 := by simp [invO]
        have E16 := Lib.hid e16
        clear e16
        cases hf : skyB (invO G)
        · have H := Lib.hid (HSK.out.trans hf)
          go_wp2_with fail
          go_ret2
          exact InvPost.nil H.out hB _ rfl
        · have H := Lib.hid (HSK.out.trans hf)
          go_wp2_with fail
          go_ret2
          exact ⟨.slice Av 16 cv, by rw [H.out]; rfl, by rw [invL_yes H.out, E16.out]; exact hown, hB⟩

end Go.Proofs.Ytdcabfobmkdlmaa
