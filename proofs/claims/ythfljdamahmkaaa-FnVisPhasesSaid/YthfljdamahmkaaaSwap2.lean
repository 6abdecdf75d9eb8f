/- VisSwap of the program and of the reference; VisGet; drawing and comparing visibilities. -/
import Derived.Test.YthfljdamahmkaaaSwap
import Derived.Test.YthfljdamahmkaaaDrawC
namespace Go.Proofs.Ythfljdamahmkaaa
open Go.RowKit

def getB (n : Int) (L : List (Int × Int)) (i j : Int) : Bool := Vm.visB n L && Vm.antB n i && Vm.antB n j && !(i == j)
set_option maxHeartbeats 1000000 in
theorem VisGet_ok (A : Option Addr) (m c : Nat) (n i j : Int) (L : List (Int × Int)) (w : World) (h : Rd w w.heap.size 2 A m c (cp L)) (hv : Vm.visB n L = true) (hi : 0 ≤ i ∧ i < n) (hj : 0 ≤ j ∧ j < n) (hne : i ≠ j) :
    Calls Try.prog 20 #[.int .i64 n, .slice A m c, .int .i64 i, .int .i64 j] w fun e w' => e = .returned (.tuple #[gv (Vm.vget n L i j), .bool true]) ∧ Below w.heap.size w w' := by
  have HV := Lib.hid hv
  have h1 : Vm.antB n i = true := (Vm.antB_iff _ _).2 hi
  have h2 : Vm.antB n j = true := (Vm.antB_iff _ _).2 hj
  have h3 : (i == j) = false := by simp [hne]
  clear hv
  go_enter Try.func20, Try.ntmps20
  go_wp2_with fail
  refine (VisValid_any _ _ _ n L _ (h.after (bA (b0 w) _))).mono ?_
  rintro e w1 ⟨rfl, hB1⟩
  rw [HV.out]
  go_wp2_with (go_at_call 45; refine (isAnt_any _ _ _).mono ?_; rintro e w' ⟨rfl, rfl⟩)
  refine (visGet_any _ _ _ n i j L _ ((h.after (bA (b0 w) _)).after hB1) HV.out hi hj hne).mono ?_
  rintro e w2 ⟨rfl, hB2⟩
  have hBB := bT hB1 hB2
  obtain ⟨q1, q2⟩ := bcell hBB
  have c0 : w2.cell? ⟨w.heap.size, 0, none⟩ = some (.int .i64 0) := (q1 _ _ (by simp)).trans (by simp [go_sem])
  have c1 : w2.cell? ⟨w.heap.size, 1, none⟩ = some (.int .i64 0) := (q1 _ _ (by simp)).trans (by simp [go_sem])
  obtain ⟨v, hvv⟩ : ∃ v, Vm.vget n L i j = v := ⟨_, rfl⟩
  rw [hvv]
  have HVV := Lib.hid hvv
  clear hvv
  obtain ⟨_, s1, s2⟩ := st2 c0 c1 (.int .i64 v.1) (.int .i64 v.2)
  unfold gv
  go_wp2_with fail
  refine bodyPost_ret (v := .tuple #[.agg #[.int .i64 v.1, .int .i64 v.2], .bool true]) (by simp [results, Try.results20, go_sem, s1, s2]) rfl ⟨by rw [HVV.out]; rfl, ?_⟩
  exact bS (p := ⟨w.heap.size, 1, none⟩) (bS (p := ⟨w.heap.size, 0, none⟩) (bT (bA (b0 w) _) hBB) (Nat.le_refl _) _) (Nat.le_refl _) _

def SwapPost (n : Int) (L : List (Int × Int)) (a b : Int) (w : World) (e : Ending) (w' : World) : Prop := ∃ v, e = .returned (.tuple #[v, .bool (Vm.swapB n L a b)]) ∧ w'.ownsRow w.heap.size 32 2 v (Vm.swapL n L a b).length (cp (Vm.swapL n L a b)) ∧ Below w.heap.size w w'
theorem SwapPost.no {n : Int} {L : List (Int × Int)} {a b : Int} {w w' : World} (h : Vm.swapB n L a b = false) (hB : Below w.heap.size w w') : SwapPost n L a b w (.returned (.tuple #[.slice none 0 0, .bool false])) w' :=
  ⟨_, by rw [h], by rw [Vm.swapL_no h]; exact World.ownsRow_nil _ _ _ _, hB⟩
theorem swap_no1 {n : Int} {L : List (Int × Int)} {a b : Int} (h : Vm.visB n L = false) : Vm.swapB n L a b = false := by simp [Vm.swapB, h]
theorem swap_no2 {n : Int} {L : List (Int × Int)} {a b : Int} (h : Vm.antB n a = false) : Vm.swapB n L a b = false := by simp [Vm.swapB, h]
theorem swap_no3 {n : Int} {L : List (Int × Int)} {a b : Int} (h : Vm.antB n b = false) : Vm.swapB n L a b = false := by simp [Vm.swapB, h]
set_option maxHeartbeats 2000000 in
theorem VisSwap_any (A : Option Addr) (m c : Nat) (n : Int) (L : List (Int × Int)) (a b : Int) (w : World) (h : Rd w w.heap.size 2 A m c (cp L)) :
    Calls Try.prog 32 #[.int .i64 n, .slice A m c, .int .i64 a, .int .i64 b] w (SwapPost n L a b w) := by
  cases hs : Vm.swapB n L a b
  · have H := Lib.hid hs
    have hbb : ∀ w1, Below ((((w.alloc (.cells #[.int .i64 n] 3)).alloc (.cells #[.slice A m c] 23)).alloc (.cells #[.int .i64 a] 3)).alloc (.cells #[.int .i64 b] 3)).heap.size ((((w.alloc (.cells #[.int .i64 n] 3)).alloc (.cells #[.slice A m c] 23)).alloc (.cells #[.int .i64 a] 3)).alloc (.cells #[.int .i64 b] 3)) w1 →
        w1.cell? ⟨w.heap.size, 0, none⟩ = some (.int .i64 n) ∧ w1.cell? ⟨w.heap.size + 1 + 1, 0, none⟩ = some (.int .i64 a) ∧ w1.cell? ⟨w.heap.size + 1 + 1 + 1, 0, none⟩ = some (.int .i64 b) := fun w1 hB1 => by
      obtain ⟨q1, _⟩ := bcell hB1
      exact ⟨(q1 _ _ (by simp; omega)).trans (by simp [go_sem]), (q1 _ _ (by simp)).trans (by simp [go_sem]), (q1 _ _ (by simp)).trans (by simp [go_sem])⟩
    have HBB := Lib.hid hbb
    clear hbb
    cases hv : Vm.visB n L
    · clear hs
      go_enter Try.func32, Try.ntmps32
      go_wp2_with fail
      refine (VisValid_any _ _ _ n L _ (h.after (bA (bA (bA (bA (b0 w) _) _) _) _))).mono ?_
      rintro e w1 ⟨rfl, hB1⟩
      rw [hv]
      obtain ⟨k0, k2, k3⟩ := HBB.out w1 hB1
      go_wp2_with (go_at_call 45; refine (isAnt_any _ _ _).mono ?_; rintro e w' ⟨rfl, rfl⟩)
      go_ret2
      exact SwapPost.no H.out (bT (bA (bA (bA (bA (b0 w) _) _) _) _) hB1)
    · cases ha : Vm.antB n a
      · clear hs
        go_enter Try.func32, Try.ntmps32
        go_wp2_with fail
        refine (VisValid_any _ _ _ n L _ (h.after (bA (bA (bA (bA (b0 w) _) _) _) _))).mono ?_
        rintro e w1 ⟨rfl, hB1⟩
        rw [hv]
        obtain ⟨k0, k2, k3⟩ := HBB.out w1 hB1
        go_wp2_with (go_at_call 45; refine (isAnt_any _ _ _).mono ?_; rintro e w' ⟨rfl, rfl⟩)
        go_ret2
        exact SwapPost.no H.out (bT (bA (bA (bA (bA (b0 w) _) _) _) _) hB1)
      · have hb : Vm.antB n b = false := by simpa [Vm.swapB, hv, ha] using hs
        clear hs
        go_enter Try.func32, Try.ntmps32
        go_wp2_with fail
        refine (VisValid_any _ _ _ n L _ (h.after (bA (bA (bA (bA (b0 w) _) _) _) _))).mono ?_
        rintro e w1 ⟨rfl, hB1⟩
        rw [hv]
        obtain ⟨k0, k2, k3⟩ := HBB.out w1 hB1
        go_wp2_with (go_at_call 45; refine (isAnt_any _ _ _).mono ?_; rintro e w' ⟨rfl, rfl⟩)
        go_ret2
        exact SwapPost.no H.out (bT (bA (bA (bA (bA (b0 w) _) _) _) _) hB1)
  · obtain ⟨h1, ha, hb⟩ := (Vm.swapB_iff _ _ _ _).1 hs
    obtain ⟨N, rfl, hO⟩ := Vm.Ok.of h1
    refine (VisSwap_ok A m c N L a b w h h1 ha hb).mono ?_
    rintro e w' ⟨v, rfl, hown, hB⟩
    exact ⟨v, by rw [hs], by rw [Vm.swapL_yes hs]; exact hown, hB⟩
set_option maxHeartbeats 400000 in
theorem l11Other_any (i a b : Int) (w : World) : Calls Try.prog 56 #[.int .i64 i, .int .i64 a, .int .i64 b] w fun e w' => e = .returned (.int .i64 (Vm.swp a b i)) ∧ w = w' := by
  by_cases h1 : i = a
  · have H := Lib.hid (show Vm.swp a b i = b by simp [Vm.swp, h1])
    have hd : (i == a) = true := by simp [h1]
    clear h1
    go_enter Try.func56, Try.ntmps56
    go_wp2
    go_ret
    exact ⟨ret_int H.out.symm, rfl⟩
  · have hd : (i == a) = false := by simp [h1]
    by_cases h2 : i = b
    · have H := Lib.hid (show Vm.swp a b i = a by unfold Vm.swp; rw [if_neg h1, if_pos h2])
      have hd2 : (i == b) = true := by simp [h2]
      clear h1 h2
      go_enter Try.func56, Try.ntmps56
      go_wp2
      go_ret
      exact ⟨ret_int H.out.symm, rfl⟩
    · have H := Lib.hid (show Vm.swp a b i = i by unfold Vm.swp; rw [if_neg h1, if_neg h2])
      have hd2 : (i == b) = false := by simp [h2]
      clear h1 h2
      go_enter Try.func56, Try.ntmps56
      go_wp2
      go_ret
      exact ⟨ret_int H.out.symm, rfl⟩
/-- The first k baselines. -/
def mkN (N k : Nat) (f : Int → Int → Int × Int) : List (Int × Int) := ((Vm.basesL N).take k).map fun p => f p.1 p.2
theorem mkN_zero (N : Nat) (f : Int → Int → Int × Int) : mkN N 0 f = [] := rfl
theorem mkN_step {N i j : Nat} (hN : N ≤ 7) (hij : i < j) (hj : j < N) (f : Int → Int → Int × Int) : cp (mkN N (Vm.bt N i (j + 1)) f) = cp (mkN N (Vm.bt N i j) f) ++ [.int .i64 (f i j).1, .int .i64 (f i j).2] ∧ (mkN N (Vm.bt N i (j + 1)) f).length = (mkN N (Vm.bt N i j) f).length + 1 := by
  have e := (take_prefix hN hij hj).2
  unfold mkN
  rw [← e, List.map_append, cp_append, List.length_append]
  exact ⟨rfl, rfl⟩
theorem mkN_len {N : Nat} (hN : N ≤ 7) (k : Nat) (f : Int → Int → Int × Int) : (mkN N k f).length ≤ 21 := by
  unfold mkN
  rw [List.length_map, List.length_take, (Vm.bt_zero_all N (by omega)).2.1]
  have := Vm.many_le N (by omega)
  omega
theorem mkN_all {N : Nat} (hN : N ≤ 7) (f : Int → Int → Int × Int) : mkN N (Vm.bt N N (N + 1)) f = Vm.mk N f := by
  obtain ⟨_, e1, e2⟩ := Vm.bt_zero_all N (by omega)
  unfold mkN Vm.mk
  rw [e2, ← e1, List.take_length]
theorem swapF_eq (n : Int) (L : List (Int × Int)) (a b i j : Int) : Vm.swapF n L a b i j = Vm.vget n L (Vm.swp a b i) (Vm.swp a b j) := rfl
set_option maxHeartbeats 4000000 in
theorem sVisSwap_any (A : Option Addr) (m c : Nat) (n : Int) (L : List (Int × Int)) (a b : Int) (w : World) (h : Rd w w.heap.size 2 A m c (cp L)) :
    Calls Try.prog 31 #[.int .i64 n, .slice A m c, .int .i64 a, .int .i64 b] w (SwapPost n L a b w) := by
  have hO0 : (w.alloc (.cells #[] 32)).ownsRow w.heap.size 32 2 (.slice (some ⟨w.heap.size, 0, none⟩) 0 0) 0 [] := World.ownsRow_lit w #[] 0 (Nat.le_refl _) (by decide) rfl
  cases hs : Vm.swapB n L a b
  · have H : Hid (SwapPost n L a b w (.returned (.tuple #[.slice (some ⟨w.heap.size, 0, none⟩) 0 0, .bool false])) (w.alloc (.cells #[] 32))) := ⟨_, by rw [hs], by rw [Vm.swapL_no hs]; exact hO0, bA (b0 w) _⟩
    clear hO0
    cases hv : Vm.visB n L
    · clear hs
      go_enter Try.func31, Try.ntmps31
      go_wp2_with (first
        | (go_at_call 42; refine (sVisValid_any _ _ _ n L _ (h.after (bA (b0 w) _))).mono ?_; rintro e w' ⟨rfl, rfl⟩)
        | (go_at_call 52; refine (l6In_any _ _ _ _).mono ?_; rintro e w' ⟨rfl, rfl⟩; rw [in3_antB]))
      go_ret2
      exact H.out
    · obtain ⟨hn1, hn2⟩ := (Vm.manyB_iff _).1 ((Vm.visB_iff _ _).1 hv).1
      cases ha : Vm.antB n a
      · clear hs
        go_enter Try.func31, Try.ntmps31
        go_wp2_with (first
          | (go_at_call 42; refine (sVisValid_any _ _ _ n L _ (h.after (bA (b0 w) _))).mono ?_; rintro e w' ⟨rfl, rfl⟩)
          | (go_at_call 52; refine (l6In_any _ _ _ _).mono ?_; rintro e w' ⟨rfl, rfl⟩; rw [in3_antB]))
        go_ret2
        exact H.out
      · have hb : Vm.antB n b = false := by simpa [Vm.swapB, hv, ha] using hs
        clear hs
        go_enter Try.func31, Try.ntmps31
        go_wp2_with (first
          | (go_at_call 42; refine (sVisValid_any _ _ _ n L _ (h.after (bA (b0 w) _))).mono ?_; rintro e w' ⟨rfl, rfl⟩)
          | (go_at_call 52; refine (l6In_any _ _ _ _).mono ?_; rintro e w' ⟨rfl, rfl⟩; rw [in3_antB]))
        go_ret2
        exact H.out
  · obtain ⟨hv, ha, hb⟩ := (Vm.swapB_iff _ _ _ _).1 hs
    obtain ⟨N, rfl, hOk⟩ := Vm.Ok.of hv
    have HS := Lib.hid hs
    have HV := Lib.hid hv
    have h2 := hOk.lo
    have h7 := hOk.hi
    have a1 : Vm.antB N a = true := (Vm.antB_iff _ _).2 ha
    have b1 : Vm.antB N b = true := (Vm.antB_iff _ _).2 hb
    clear hs hOk
    obtain ⟨i0, hi, hz0, hz1, hz2⟩ := info_parts infoVis
    go_enter Try.func31, Try.ntmps31
    go_wp2_with (first
      | (go_at_call 42; refine (sVisValid_any _ _ _ N L _ (h.after (bA (b0 w) _))).mono ?_; rintro e w' ⟨rfl, rfl⟩)
      | (go_at_call 52; refine (l6In_any _ _ _ _).mono ?_; rintro e w' ⟨rfl, rfl⟩; rw [in3_antB]))
    clear hv a1 b1
    go_loopw [10, 11] (fun v i wr => ∃ q : Nat, q ≤ N ∧ i = .int .i64 q ∧ wr.ownsRow w.heap.size 32 2 v (mkN N (Vm.bt N q (q + 1)) (Vm.swapF N L a b)).length (cp (mkN N (Vm.bt N q (q + 1)) (Vm.swapF N L a b))) ∧ Below w.heap.size w wr) (fun _ i _ => N - (intOf i).toNat)
    case atStart => exact ⟨0, Nat.zero_le _, rfl, by rw [(Vm.bt_zero_all N (by omega)).1, mkN_zero]; exact hO0, bA (b0 w) _⟩
    case round =>
      clear hO0
      obtain ⟨q, hq, rfl, hown, hB⟩ := hrel
      by_cases hlt : q < N
      · go_wp2_with fail
        go_loopw [10, 12] (fun v i wr => ∃ r : Nat, q < r ∧ r ≤ N ∧ i = .int .i64 r ∧ wr.ownsRow w.heap.size 32 2 v (mkN N (Vm.bt N q r) (Vm.swapF N L a b)).length (cp (mkN N (Vm.bt N q r) (Vm.swapF N L a b))) ∧ Below w.heap.size w wr) (fun _ i _ => N - (intOf i).toNat)
        case atStart => exact ⟨q + 1, by omega, by omega, by go_num, hown, hB⟩
        case round =>
          clear hown hB
          obtain ⟨r, hqr, hr, rfl, hown, hB⟩ := hrel
          by_cases hrl : r < N
          · have HM := Lib.hid (mkN_step h7 hqr hrl (Vm.swapF N L a b))
            have hlen := mkN_len h7 (Vm.bt N q r) (Vm.swapF N L a b)
            have rq : 0 ≤ (q : Int) ∧ (q : Int) < N := by omega
            have rr : 0 ≤ (r : Int) ∧ (r : Int) < N := by omega
            have rne : (q : Int) ≠ (r : Int) := by omega
            go_wp2_with (go_at_call 56; refine (l11Other_any _ _ _ _).mono ?_; rintro e w' ⟨rfl, rfl⟩)
            refine (l11Get_any A m c N _ _ L _ ((h.below hB).more hB.size) HV.out (Vm.swp_rng ha hb rq) (Vm.swp_rng ha hb rr) (Vm.swp_inj rne)).mono ?_
            rintro e w1 ⟨rfl, hB1⟩
            rw [← swapF_eq]
            obtain ⟨p, hp⟩ : ∃ p, Vm.swapF N L a b q r = p := ⟨_, rfl⟩
            rw [hp] at HM ⊢
            clear hp
            have hown1 := (own_after hown hB1).alloc (.cells #[.int .i64 p.1, .int .i64 p.2] 32)
            have hB2 := bA (bT hB hB1) (.cells #[.int .i64 p.1, .int .i64 p.2] 32)
            have hsz := (bT hB hB1).size
            clear hown hB1 rne rq rr
            unfold gv
            go_wp2_with (at_builtin; refine wpList_append_own _ rfl _ _ 23 rfl w.heap.size 32 i0 _ 2 16 Try.underlying23 hi hz0 hz1 hz2 rfl (by decide) _ _ _ rfl hown1 ⟨w1.heap.size, 0, none⟩ 1 1 [.int .i64 p.1, .int .i64 p.2] rfl rfl (new_cells _ _ _) ?c2 ?c3 ?c4 ?c5 ?_)
            case c2 => intro u hu; simp at hu; rcases hu with rfl | rfl <;> rfl
            case c3 => unfold maxLen; omega
            case c4 => omega
            case c5 => simp; omega
            intro v' w3 hown' hgrow _
            have hB3 := own_below hB2 hown1 hgrow
            clear hown1 hgrow hB2 hB
            go_wp2_with fail
            go_roundw
            case rel => exact ⟨r + 1, by omega, by omega, by go_num, by rw [HM.out.1, HM.out.2]; exact hown', hB3⟩
            case measure => simp [intOf]; omega
          · have hre : r = N := by omega
            subst hre
            have HB := Lib.hid (Vm.bt_row_all r (by omega) q hlt)
            go_wp2_with fail
            go_roundw
            case rel => exact ⟨q + 1, by omega, by go_num, by rw [← HB.out]; exact hown, hB⟩
            case measure => simp [intOf]; omega
      · have hqe : q = N := by omega
        subst hqe
        obtain ⟨A', c', rfl⟩ := own_form hown
        have H : Hid (SwapPost q L a b w (.returned (.tuple #[.slice A' (mkN q (Vm.bt q q (q + 1)) (Vm.swapF q L a b)).length c', .bool true])) wr) := ⟨_, by rw [HS.out], by rw [Vm.swapL_yes HS.out, ← mkN_all h7]; exact hown, hB⟩
        clear hown hB
        go_wp2_with fail
        go_ret2
        exact H.out

end Go.Proofs.Ythfljdamahmkaaa
