/- Contracts: GridInverse of the program. -/
import Derived.Test.YtdcabfobmkdlmaaInvV
import Derived.Test.YtdcabfobmkdlmaaFold
namespace Go.Proofs.Ytdcabfobmkdlmaa
open Go.RowKit

theorem inv_no1 {G : List (Int × Int)} (h : gridB G = false) : invB G = false := by simp [invB, h]
theorem inv_no2 {G : List (Int × Int)} {x : Nat} (hx : x < 16) (h : ¬ ((invT G x).2 = 0 ∧ (invT G x).1 % 16 = 0)) : invB G = false := by
  rw [Bool.eq_false_iff]
  exact fun e => h (((invB_iff G).1 e).2.1 x hx)
theorem inv_sky {G : List (Int × Int)} (h : gridB G = true) (h2 : ∀ x, x < 16 → (invT G x).2 = 0 ∧ (invT G x).1 % 16 = 0) : invB G = skyB (invO G) := by
  cases hs : skyB (invO G)
  · rw [Bool.eq_false_iff]; intro e; have := ((invB_iff G).1 e).2.2; rw [hs] at this; cases this
  · exact (invB_iff G).2 ⟨h, h2, hs⟩
theorem tr_list {G : List (Int × Int)} (h : gridB G = true) : (List.range 16).map (Sky.Tn G.length (fun j => G.getD j (0, 0)) (-1)) = (List.range 16).map (invT G) := by
  rw [gridB_len h]; rfl
theorem inv_bd {G : List (Int × Int)} (h : gridB G = true) (x : Nat) : -16000000000 ≤ (invT G x).1 ∧ (invT G x).1 ≤ 16000000000 := by
  have := Sky.Tn_bound 16 (gcells G) (-1) x 1000000000 (fun k hk => by
    have hl := gridB_len h
    have e : gcells G k = G[k] := by simp [gcells, hl, hk]
    have hg := (gaussB_iff _).1 (List.all_eq_true.1 (gridB_all h) _ (List.getElem_mem (show k < G.length by omega)))
    rw [e]; exact hg)
  unfold invT Sky.T
  omega
theorem tdiv16 {a : Int} (h : a % 16 = 0) : a.tmod 16 = 0 ∧ a.tdiv 16 = a / 16 := by
  have h1 : a = 16 * (a / 16) := by omega
  constructor
  · rw [h1, Int.mul_tmod_right]
  · rw [h1, Int.mul_tdiv_cancel_left _ (by omega), Int.mul_ediv_cancel_left _ (by omega)]
theorem tmod16 {a : Int} (h : ¬ a % 16 = 0) : a.tmod 16 ≠ 0 := fun e => h (by
  have := Int.tmod_add_mul_tdiv a 16
  rw [e] at this
  omega)
def InvPost (G : List (Int × Int)) (w : World) (e : Ending) (w' : World) : Prop := ∃ v, e = .returned (.tuple #[v, .bool (invB G)]) ∧ w'.ownsRow w.heap.size 3 1 v (invL G).length (ci (invL G)) ∧ Below w.heap.size w w'
theorem InvPost.no {G : List (Int × Int)} {w w' : World} (h : invB G = false) (hB : Below w.heap.size w w') : InvPost G w (.returned (.tuple #[.slice none 0 0, .bool false])) w' :=
  ⟨_, by rw [h], by rw [invL_no h]; exact World.ownsRow_nil _ _ _ _, hB⟩
set_option maxHeartbeats 2000000 in
theorem GridInverse_any (A : Option Addr) (n c : Nat) (G : List (Int × Int)) (w : World) (h : Rd w w.heap.size 2 A n c (cp G)) :
    Calls Try.prog 21 #[.slice A n c] w (InvPost G w) := by
  cases hg : gridB G
  · have H := Lib.hid (inv_no1 hg)
    go_enter Try.func21, Try.ntmps21
    go_wp2_with fail
    refine (GridValid_any _ _ _ G _ h).mono ?_
    rintro e w1 ⟨rfl, hB1⟩
    rw [hg]
    go_wp2_with fail
    go_ret2
    exact InvPost.no H.out hB1
  · have HG := Lib.hid hg
    have HT := Lib.hid (tr_list hg)
    have hl := gridB_len hg
    have HLn := Lib.hid hl
    clear hg hl
    have hmk := make16I
    go_enter Try.func21, Try.ntmps21
    go_wp2_with fail
    refine (GridValid_any _ _ _ G _ h).mono ?_
    rintro e w1 ⟨rfl, hB1⟩
    rw [HG.out]
    go_wp2_with fail
    refine (transform_any _ _ _ G (-1) _ (h.after (bT hB1 (bA (b0 w1) _))) (by have := HLn.out; omega) (by omega) (by omega) (gridB_all HG.out)).mono ?_
    rintro e w2 ⟨v2, rfl, hown2, hB2⟩
    obtain ⟨A2, c2, rfl⟩ := own_form hown2
    rw [HT.out] at hown2
    have hO1 : (w1.alloc (.cells (ci z16).toArray 3)).ownsRow w1.heap.size 3 1 (.slice (some ⟨w1.heap.size, 0, none⟩) 16 16) 16 (ci z16) := World.ownsRow_lit _ _ 16 (Nat.le_refl _) (by decide) (by decide)
    have hO2 := own_after hO1 hB2
    have hBB := bT (bA hB1 (.cells (ci z16).toArray 3)) hB2
    have hs2 := hB2.size
    simp at hs2 hown2
    clear hmk hO1 hB2
    go_wp2_with fail
    go_loopw [14] (fun v wr => ∃ (k : Nat) (M : List Int), k ≤ 16 ∧ v = .int .i64 k ∧ Hid (filM M (fun x => (invT G x).1 / 16) k) ∧ Hid (∀ x, x < k → (invT G x).2 = 0 ∧ (invT G x).1 % 16 = 0) ∧ wr.ownsRow w1.heap.size 3 1 (.slice (some ⟨w1.heap.size, 0, none⟩) 16 16) 16 (ci M) ∧ wr.ownsRow (w1.heap.size + 1) 32 2 (.slice A2 16 c2) 16 (cp ((List.range 16).map (invT G))) ∧ Below w.heap.size w wr) (fun v _ => 16 - (intOf v).toNat)
    case atStart => exact ⟨0, z16, Nat.zero_le _, rfl, ⟨by simp [z16], fun x hx => by omega⟩, fun x hx => by omega, hO2, hown2, hBB⟩
    case round =>
      clear hO2 hown2 hBB
      obtain ⟨k, M, hk, rfl, hM, hall, hown, htr, hB⟩ := hrel
      by_cases hlt : k < 16
      · obtain ⟨b, off, rfl, hb, hc1, hc2⟩ := (Rd.of_own htr).pair_at (k := k) (by simp; exact hlt)
        have eK : ((List.range 16).map (invT G))[k]'(by simp; exact hlt) = invT G k := by simp
        rw [eK] at hc1 hc2
        clear eK
        have hNo := fun hn => @inv_no2 G k hlt hn
        have hnext : (invT G k).2 = 0 ∧ (invT G k).1 % 16 = 0 → ∀ x, x < k + 1 → (invT G x).2 = 0 ∧ (invT G x).1 % 16 = 0 := fun hh x hx => by
          by_cases e : x = k
          · rw [e]; exact hh
          · exact hall.out x (by omega)
        have hset := fun y hy => filM_set (M := M) (f := fun x => (invT G x).1 / 16) (k := k) hM.out hlt y hy
        have HN := Lib.hid hnext
        obtain ⟨p, hp⟩ : ∃ p, invT G k = p := ⟨_, rfl⟩
        have hpb := inv_bd HG.out k
        rw [hp] at hc1 hc2 hNo hset hpb
        obtain ⟨pb1, pb2⟩ := hpb
        have HP := Lib.hid hp
        clear hp hnext
        by_cases him : p.2 = 0
        · have hd : (p.2 != 0) = false := by simp [him]
          by_cases hre : p.1 % 16 = 0
          · obtain ⟨t1, t2⟩ := tdiv16 hre
            have hd2 : (p.1.tmod 16 != 0) = false := by simp [t1]
            have HS := Lib.hid (hset (p.1.tdiv 16) t2)
            have HA := Lib.hid (HN.out (by rw [HP.out]; exact ⟨him, hre⟩))
            have hml : k < M.length := by rw [hM.out.1]; exact hlt
            have hcell := (hown.cellAt k (by omega)).trans (ci_at M k hml)
            have hfr := hown.frozenAt k
            have hzs : w1.heap.size < wr.heap.size := (hown.lt w1.heap.size rfl).2
            have hi0 : (0 : Int) ≤ (k : Int) := by omega
            have hi1 : (k : Int) < 16 := by omega
            have hbn : w1.heap.size + 1 ≤ b := (htr.lt b rfl).1
            have hown2 := ((hown.stored k (.int .i64 (p.1.tdiv 16))).1).alloc (.cells #[.int .i64 p.1, .int .i64 p.2] 32)
            rw [← ci_set] at hown2
            have htr2 := (htr.kept (row := some w1.heap.size) (w' := wr.setCell ⟨w1.heap.size, k, none⟩ (.int .i64 (p.1.tdiv 16))) ⟨rfl, rfl, rfl, by simp, fun q _ hq => heap_setCell_other _ ⟨w1.heap.size, k, none⟩ q _ (fun e => hq (by simp [e]))⟩ (.inr (by simp [Value.ownBlock]; omega))).alloc (.cells #[.int .i64 p.1, .int .i64 p.2] 32)
            have hBn := bA (bS (p := ⟨w1.heap.size, k, none⟩) hB hB1.size (.int .i64 (p.1.tdiv 16))) (.cells #[.int .i64 p.1, .int .i64 p.2] 32)
            have t3 : -16000000000 ≤ p.1.tdiv 16 := by rw [t2]; omega
            have t4 : p.1.tdiv 16 ≤ 16000000000 := by rw [t2]; omega
            clear hNo hset t1 t2 him hre hown htr hB HN
            go_wp2_with fail
            go_roundw
            case rel => exact ⟨k + 1, _, by omega, by go_num, HS, HA, hown2, htr2, hBn⟩
            case measure => simp [intOf]; omega
          · have hd2 : (p.1.tmod 16 != 0) = true := by simp; exact tmod16 hre
            have H := Lib.hid (hNo (fun hh => hre hh.2))
            clear hNo hset him hre hown htr HN
            go_wp2_with fail
            go_ret2
            exact InvPost.no H.out (bA hB _)
        · have hd : (p.2 != 0) = true := by simp [him]
          have H := Lib.hid (hNo (fun hh => him hh.1))
          clear hNo hset him hown htr HN
          go_wp2_with fail
          go_ret2
          exact InvPost.no H.out (bA hB _)
      · have hke : k = 16 := by omega
        have hMD : M = invO G := filM_done hM.out hke
        subst hke
        subst hMD
        have HSK := Lib.hid (inv_sky HG.out hall.out)
        clear htr
        go_wp2_with fail
        refine (skyChecked_any _ _ _ (invO G) _ (Rd.of_own hown)).mono ?_
        rintro e w' ⟨rfl, rfl⟩
        have e16 : (invO G).length = 16 := by simp [invO]
        have E16 := Lib.hid e16
        clear e16
        cases hf : skyB (invO G)
        · have H := Lib.hid (HSK.out.trans hf)
          go_wp2_with fail
          go_ret2
          exact InvPost.no H.out hB
        · have H := Lib.hid (HSK.out.trans hf)
          go_wp2_with fail
          go_ret2
          exact ⟨.slice (some ⟨w1.heap.size, 0, none⟩) 16 16, by rw [H.out]; rfl, by rw [invL_yes H.out, E16.out]; exact own_less hown hB1.size, hB⟩

end Go.Proofs.Ytdcabfobmkdlmaa
