/- Contracts: CloseBase of the program and of the reference. -/
import Derived.Test.YtgipjfcmgmbcnaaCloseB
import Derived.Test.YtgipjfcmgmbcnaaVisC
import Derived.Test.YtgipjfcmgmbcnaaDrawC
namespace Go.Proofs.Ytgipjfcmgmbcnaa
open Go.RowKit

def cbOK (n : Int) (L : List (Int × Int)) : Bool := Vm.visB n L && decide (3 ≤ n)
def cbO (n : Int) (L : List (Int × Int)) : List Int := if cbOK n L then Vm.cbL n.toNat L else []
theorem cbOK_iff (n : Int) (L : List (Int × Int)) : cbOK n L = true ↔ Vm.visB n L = true ∧ 3 ≤ n := by simp [cbOK]
theorem cbO_yes {N : Nat} {L : List (Int × Int)} (h : cbOK N L = true) : cbO N L = Vm.cbL N L := by rw [cbO, if_pos h, Int.toNat_natCast]
theorem cbO_no {n : Int} {L : List (Int × Int)} (h : cbOK n L = false) : cbO n L = [] := by rw [cbO, h]; rfl
def CBPost (n : Int) (L : List (Int × Int)) (w : World) (e : Ending) (w' : World) : Prop := ∃ v, e = .returned (.tuple #[v, .bool (cbOK n L)]) ∧ w'.ownsRow w.heap.size 3 1 v (cbO n L).length (ci (cbO n L)) ∧ Below w.heap.size w w'
theorem CBPost.no {n : Int} {L : List (Int × Int)} {w w' : World} (h : cbOK n L = false) (hB : Below w.heap.size w w') : CBPost n L w (.returned (.tuple #[.slice none 0 0, .bool false])) w' :=
  ⟨_, by rw [h], by rw [cbO_no h]; exact World.ownsRow_nil _ _ _ _, hB⟩
set_option maxHeartbeats 2000000 in
theorem CloseBase_any (A : Option Addr) (m c : Nat) (n : Int) (L : List (Int × Int)) (w : World) (h : Rd w w.heap.size 2 A m c (cp L)) :
    Calls Try.prog 23 #[.int .i64 n, .slice A m c] w (CBPost n L w) := by
  cases hk : cbOK n L
  · have H := Lib.hid hk
    have hbb : ∀ w1, Below ((w.alloc (.cells #[.int .i64 n] 3)).alloc (.cells #[.slice A m c] 31)).heap.size ((w.alloc (.cells #[.int .i64 n] 3)).alloc (.cells #[.slice A m c] 31)) w1 →
        w1.cell? ⟨w.heap.size, 0, none⟩ = some (.int .i64 n) := fun w1 hB1 => by
      obtain ⟨q1, _⟩ := bcell hB1
      exact (q1 _ _ (by simp; omega)).trans (by simp [go_sem])
    have HBB := Lib.hid hbb
    clear hbb
    cases hv : Vm.visB n L
    · clear hk
      go_enter Try.func23, Try.ntmps23
      go_wp2_with fail
      refine (VisValid_any _ _ _ n L _ (h.after (bA (bA (b0 w) _) _))).mono ?_
      rintro e w1 ⟨rfl, hB1⟩
      rw [hv]
      have k0 := HBB.out w1 hB1
      go_wp2_with fail
      go_ret2
      exact CBPost.no H.out (bT (bA (bA (b0 w) _) _) hB1)
    · have h3 : n < 3 := by
        apply Classical.byContradiction
        intro hc
        rw [(cbOK_iff n L).2 ⟨hv, by omega⟩] at hk
        cases hk
      have h2 := ((Vm.manyB_iff _).1 ((Vm.visB_iff _ _).1 hv).1).1
      clear hk
      go_enter Try.func23, Try.ntmps23
      go_wp2_with fail
      refine (VisValid_any _ _ _ n L _ (h.after (bA (bA (b0 w) _) _))).mono ?_
      rintro e w1 ⟨rfl, hB1⟩
      rw [hv]
      have k0 := HBB.out w1 hB1
      go_wp2_with fail
      go_ret2
      exact CBPost.no H.out (bT (bA (bA (b0 w) _) _) hB1)
  · obtain ⟨h1, h3⟩ := (cbOK_iff _ _).1 hk
    obtain ⟨N, rfl, hO⟩ := Vm.Ok.of h1
    refine (CloseBase_ok A m c N L w h h1 (by omega)).mono ?_
    rintro e w' ⟨v, rfl, hown, hB⟩
    exact ⟨v, by rw [hk], by rw [cbO_yes hk]; exact hown, hB⟩
def chk9 : Bool := (List.range 8).all fun n => decide (n < 3) || decide (((Vm.basesL n).take (Vm.bt n 1 2)).filter (fun p => decide (0 < p.1)) = [])
theorem chk9_ok : chk9 = true := by decide +kernel
theorem cbG_start {N : Nat} (h3 : 3 ≤ N) (h7 : N ≤ 7) (L : List (Int × Int)) : cbG N L ((Vm.basesL N).take (Vm.bt N 1 2)) = [] := by
  have h := chk9_ok
  simp only [chk9, List.all_eq_true, List.mem_range] at h
  have h2 := h N (by omega)
  simp only [show ¬ N < 3 by omega, decide_false, Bool.false_or, decide_eq_true_eq] at h2
  rw [cbG, h2]; rfl
theorem cbG_step {N q r : Nat} (h7 : N ≤ 7) (h0 : 0 < q) (hqr : q < r) (hr : r < N) (L : List (Int × Int)) : cbG N L ((Vm.basesL N).take (Vm.bt N q (r + 1))) = cbG N L ((Vm.basesL N).take (Vm.bt N q r)) ++ [Vm.loopP N L [0, (q : Int), (r : Int)]] := by
  rw [← (take_prefix h7 hqr hr).2, cbG_next h0]
theorem cbG_end {N : Nat} (h3 : 3 ≤ N) (h7 : N ≤ 7) (L : List (Int × Int)) : cbG N L ((Vm.basesL N).take (Vm.bt N N (N + 1))) = Vm.cbL N L := by
  obtain ⟨_, e1, e2⟩ := Vm.bt_zero_all N (by omega)
  rw [e2, ← e1, List.take_length, cbG_all h3 h7]
theorem cbG_len2 {N : Nat} (h7 : N ≤ 7) (L : List (Int × Int)) (k : Nat) : (cbG N L ((Vm.basesL N).take k)).length ≤ 21 := by
  have h1 := cbG_len N L ((Vm.basesL N).take k)
  rw [List.length_take, (Vm.bt_zero_all N (by omega)).2.1] at h1
  have := Vm.many_le N (by omega)
  omega
set_option maxHeartbeats 4000000 in
theorem sCloseBase_any (A : Option Addr) (m c : Nat) (n : Int) (L : List (Int × Int)) (w : World) (h : Rd w w.heap.size 2 A m c (cp L)) :
    Calls Try.prog 27 #[.int .i64 n, .slice A m c] w (CBPost n L w) := by
  have hO0 : (w.alloc (.cells #[] 3)).ownsRow w.heap.size 3 1 (.slice (some ⟨w.heap.size, 0, none⟩) 0 0) 0 [] := World.ownsRow_lit w #[] 0 (Nat.le_refl _) (by decide) rfl
  have hrA := h.after (bA (b0 w) (.cells #[] 3))
  cases hk : cbOK n L
  · have H : Hid (CBPost n L w (.returned (.tuple #[.slice (some ⟨w.heap.size, 0, none⟩) 0 0, .bool false])) (w.alloc (.cells #[] 3))) := ⟨_, by rw [hk], by rw [cbO_no hk]; exact hO0, bA (b0 w) _⟩
    clear hO0
    cases hv : Vm.visB n L
    · clear hk
      go_enter Try.func27, Try.ntmps27
      go_wp2_with (go_at_call 59; refine (sVisValid_any _ _ _ n L _ hrA).mono ?_; rintro e w' ⟨rfl, rfl⟩)
      go_ret2
      exact H.out
    · have h3 : n < 3 := by
        apply Classical.byContradiction
        intro hc
        rw [(cbOK_iff n L).2 ⟨hv, by omega⟩] at hk
        cases hk
      clear hk
      go_enter Try.func27, Try.ntmps27
      go_wp2_with (go_at_call 59; refine (sVisValid_any _ _ _ n L _ hrA).mono ?_; rintro e w' ⟨rfl, rfl⟩)
      go_ret2
      exact H.out
  · obtain ⟨hv, h3'⟩ := (cbOK_iff _ _).1 hk
    obtain ⟨N, rfl, hO⟩ := Vm.Ok.of hv
    have HO := Lib.hid hO
    have h3 : 3 ≤ N := by omega
    have h7 := hO.hi
    have HK := Lib.hid hk
    have HV := Lib.hid hv
    clear hO hk hv
    obtain ⟨i0, hi, hz0, hz1, hz2⟩ := info_parts infoInt
    go_enter Try.func27, Try.ntmps27
    go_wp2_with (go_at_call 59; refine (sVisValid_any _ _ _ N L _ hrA).mono ?_; rintro e w' ⟨rfl, rfl⟩; rw [HV.out])
    go_loopw [6, 7] (fun v i wr => ∃ q : Nat, 1 ≤ q ∧ q ≤ N ∧ i = .int .i64 q ∧ wr.ownsRow w.heap.size 3 1 v (cbG N L ((Vm.basesL N).take (Vm.bt N q (q + 1)))).length (ci (cbG N L ((Vm.basesL N).take (Vm.bt N q (q + 1))))) ∧ Below w.heap.size w wr) (fun _ i _ => N - (intOf i).toNat)
    case atStart => exact ⟨1, by omega, by omega, rfl, by rw [cbG_start h3 h7]; exact hO0, bA (b0 w) _⟩
    case round =>
      clear hO0 hrA
      obtain ⟨q, hq1, hq, rfl, hown, hB⟩ := hrel
      by_cases hlt : q < N
      · go_wp2_with fail
        go_loopw [6, 8] (fun v i wr => ∃ r : Nat, q < r ∧ r ≤ N ∧ i = .int .i64 r ∧ wr.ownsRow w.heap.size 3 1 v (cbG N L ((Vm.basesL N).take (Vm.bt N q r))).length (ci (cbG N L ((Vm.basesL N).take (Vm.bt N q r)))) ∧ Below w.heap.size w wr) (fun _ i _ => N - (intOf i).toNat)
        case atStart => exact ⟨q + 1, by omega, by omega, by go_num, hown, hB⟩
        case round =>
          clear hown hB
          obtain ⟨r, hqr, hr, rfl, hown, hB⟩ := hrel
          by_cases hrl : r < N
          · have HG := Lib.hid (cbG_step h7 (by omega) hqr hrl L)
            have hlen := cbG_len2 h7 L (Vm.bt N q r)
            have HL := Lib.hid (Vm.loop0 HO.out (by omega) hqr hrl)
            go_wp2_with fail
            refine (sClosePhase_any A m c N 0 q r L _ ((h.below hB).more hB.size)).mono ?_
            rintro e w1 ⟨rfl, hB1⟩
            obtain ⟨p, hp⟩ : ∃ p, Vm.loopP N L [0, (q : Int), (r : Int)] = p := ⟨_, rfl⟩
            rw [hp] at HG ⊢
            clear hp
            have hown1 := (own_after hown hB1).alloc (.cells #[.int .i64 p] 3)
            have hB2 := bA (bT hB hB1) (.cells #[.int .i64 p] 3)
            have hsz := (bT hB hB1).size
            clear hown hB1
            go_wp2_with (at_builtin; refine wpList_append_own _ rfl _ _ 22 rfl w.heap.size 3 i0 _ 1 8 Try.underlying22 hi hz0 hz1 hz2 rfl (by decide) _ _ _ rfl hown1 ⟨w1.heap.size, 0, none⟩ 1 1 [.int .i64 p] rfl rfl (new_cells _ _ _) ?c2 ?c3 ?c4 ?c5 ?_)
            case c2 => intro u hu; simp at hu; subst hu; rfl
            case c3 => unfold maxLen; omega
            case c4 => omega
            case c5 => simp; omega
            intro v' w3 hown' hgrow _
            have hB3 := own_below hB2 hown1 hgrow
            clear hown1 hgrow hB2 hB
            go_wp2_with fail
            go_roundw
            case rel => exact ⟨r + 1, by omega, by omega, by go_num, by rw [HG.out, List.length_append, ci_append]; exact hown', hB3⟩
            case measure => simp [intOf]; omega
          · have hre : r = N := by omega
            subst hre
            have HB2 := Lib.hid (Vm.bt_row_all r (by omega) q hlt)
            go_wp2_with fail
            go_roundw
            case rel => exact ⟨q + 1, by omega, by omega, by go_num, by rw [← HB2.out]; exact hown, hB⟩
            case measure => simp [intOf]; omega
      · have hqe : q = N := by omega
        subst hqe
        obtain ⟨A', c', rfl⟩ := own_form hown
        have H : Hid (CBPost q L w (.returned (.tuple #[.slice A' (cbG q L ((Vm.basesL q).take (Vm.bt q q (q + 1)))).length c', .bool true])) wr) := ⟨_, by rw [HK.out], by rw [cbO_yes HK.out, ← cbG_end h3 h7]; exact hown, hB⟩
        clear hown hB
        go_wp2_with fail
        go_ret2
        exact H.out

end Go.Proofs.Ytgipjfcmgmbcnaa
