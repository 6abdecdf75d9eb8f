/- Contracts: skies and grids that are drawn from a code. -/
import Derived.Test.YtdcabfobmkdlmaaPick
namespace Go.Proofs.Ytdcabfobmkdlmaa
open Go.RowKit

/-- A slice that stays readable while the reader in block R is asked. -/
def KRd (R : Nat) (w : World) (size : Nat) (A : Option Addr) (n c : Nat) (xs : List Value) : Prop := ∀ w', w.grownBy w' (some R) → Rd w' w'.heap.size size A n c xs
theorem KRd.rd {R : Nat} {w : World} {size : Nat} {A : Option Addr} {n c : Nat} {xs : List Value} (h : KRd R w size A n c xs) : Rd w w.heap.size size A n c xs := h w (World.grownBy.refl w _)
theorem KRd.next {R : Nat} {w w' : World} {size : Nat} {A : Option Addr} {n c : Nat} {xs : List Value} (h : KRd R w size A n c xs) (hg : w.grownBy w' (some R)) : KRd R w' size A n c xs := fun _ hg' => h _ (gTrans hg hg')
theorem KRd.of_own {R : Nat} {w : World} {size base n c : Nat} {e : TypeId} {A : Option Addr} {xs : List Value} (h : w.ownsRow base e size (.slice A n c) n xs) (hR : R < base) : KRd R w size A n c xs :=
  fun _ hg => Rd.of_own (own_g h hg hR)
theorem KRd.of_own_tail {R : Nat} {w : World} {size base n c g : Nat} {e : TypeId} {xs : List Value} (h : w.ownsRow base e size (.slice (some ⟨g, 0, none⟩) n c) n xs) (hR : R < base) (hn : 1 ≤ n) :
    KRd R w size (some ⟨g, size, none⟩) (n - 1) (c - 1) (xs.drop size) := by
  intro w' hg
  have hr := Rd.of_own (own_g h hg hR)
  refine ⟨?_, by have := hr.cap; omega, by have := hr.most; omega, fun _ => ?_⟩
  · rw [List.length_drop, hr.len, Nat.sub_mul, Nat.one_mul]
  · obtain ⟨b, off, e1, hb, hc⟩ := hr.at_ (by omega)
    injection e1 with e1
    injection e1 with e1 e2
    subst e1 e2
    refine ⟨g, size, rfl, hb, fun j u hu => ?_⟩
    rw [List.getElem?_drop] at hu
    have := hc _ u hu
    rwa [Nat.zero_add] at this

def z16 : List Int := List.replicate 16 0
theorem make16I (w : World) : (Instr.makeSlice 23 (.int .i64 16) (.int .i64 16)).run Try.prog w = .ok (.slice (some ⟨w.heap.size, 0, none⟩) 16 16) (w.alloc (.cells (ci z16).toArray 3)) := by kernel_rfl

theorem l21Cells_16 (w : World) : Calls Try.prog 40 #[] w fun e w' => e = .returned (.int .i64 16) ∧ w = w' := by
  go_enter Try.func40, Try.ntmps40
  go_wp2
  go_ret
  exact ⟨rfl, rfl⟩
def skyOwn (w : World) (R B N : Nat) (wr : World) : Prop :=
  ∃ L : List Int, L.length = 16 ∧ wr.ownsRow w.heap.size 3 1 (.slice (some ⟨w.heap.size, 0, none⟩) 16 16) 16 (ci L) ∧ Rdr wr R B N ∧ w.grownBy wr (some R) ∧ R < w.heap.size
theorem skyOwn.pick {w wr w1 : World} {R B N : Nat} (h : skyOwn w R B N wr) (hr : Rdr w1 R B (N + 1)) (hg : wr.grownBy w1 (some R)) : skyOwn w R B (N + 1) w1 := by
  obtain ⟨L, h1, h2, h3, h4, h5⟩ := h
  exact ⟨L, h1, own_g h2 hg h5, hr, gTrans h4 hg, h5⟩
theorem skyOwn.alloc {w wr : World} {R B N : Nat} (h : skyOwn w R B N wr) (o : Obj) : skyOwn w R B N (wr.alloc o) := by
  obtain ⟨L, h1, h2, h3, h4, h5⟩ := h
  exact ⟨L, h1, h2.alloc o, h3.after (bA (b0 _) o), gAlloc h4 o, h5⟩
theorem skyOwn.set {w wr : World} {R B N : Nat} (h : skyOwn w R B N wr) (j : Nat) (x : Int) : skyOwn w R B N (wr.setCell ⟨w.heap.size, j, none⟩ (.int .i64 x)) := by
  obtain ⟨L, h1, h2, h3, h4, h5⟩ := h
  have hs := h2.stored j (.int .i64 x)
  rw [← ci_set] at hs
  exact ⟨L.set j x, by simpa using h1, hs.1, h3.fresh hs.2 (fun k hk => by injection hk with hk; omega), gSet h4 (p := ⟨w.heap.size, j, none⟩) (Nat.le_refl _) _, h5⟩
theorem skyOwn.lt {w wr : World} {R B N : Nat} (h : skyOwn w R B N wr) : R < wr.heap.size := by
  obtain ⟨L, h1, h2, h3, h4, h5⟩ := h
  exact h3.lt
theorem skyOwn.cell {w wr : World} {R B N : Nat} (h : skyOwn w R B N wr) (j : Nat) (hj : j < 16) : (∃ v, wr.cell? ⟨w.heap.size, j, none⟩ = some v) ∧ wr.frozen? ⟨w.heap.size, j, none⟩ = false := by
  obtain ⟨L, h1, h2, h3, h4, h5⟩ := h
  exact ⟨⟨_, (h2.cellAt j (by omega)).trans (ci_at L j (by omega))⟩, h2.frozenAt j⟩

def SkyPost (R B N : Nat) (w : World) (e : Ending) (w' : World) : Prop :=
  ∃ (A : Option Addr) (n c : Nat) (L : List Int), e = .returned (.slice A n c) ∧ KRd R w' 1 A n c (ci L) ∧ Rdr w' R B N ∧ w.grownBy w' (some R)
theorem SkyPost.mono {R B N N' : Nat} {w : World} {e : Ending} {w' : World} (h : SkyPost R B N w e w') (hN : N ≤ N') : SkyPost R B N' w e w' := by
  obtain ⟨A, n, c, L, h1, h2, h3, h4⟩ := h
  exact ⟨A, n, c, L, h1, h2, h3.mono hN, h4⟩
theorem skyOwn.whole {w wr : World} {R B N : Nat} (h : skyOwn w R B N wr) : SkyPost R B N w (.returned (.slice (some ⟨w.heap.size, 0, none⟩) 16 16)) wr := by
  obtain ⟨L, h1, h2, h3, h4, h5⟩ := h
  exact ⟨_, _, _, L, rfl, KRd.of_own h2 h5, h3, h4⟩
theorem skyOwn.tail {w wr : World} {R B N : Nat} (h : skyOwn w R B N wr) : SkyPost R B N w (.returned (.slice (some ⟨w.heap.size, 1, none⟩) 15 15)) wr := by
  obtain ⟨L, h1, h2, h3, h4, h5⟩ := h
  exact ⟨_, _, _, L.drop 1, rfl, by have := KRd.of_own_tail h2 h5 (by omega); simpa [ci, List.map_drop] using this, h3, h4⟩

set_option maxHeartbeats 1000000 in
theorem l92Sky_any (R B N : Nat) (w : World) (h : Rdr w R B N) (hN : N ≤ 1000000) : Calls Try.prog 35 #[.pointer (some ⟨R, 0, none⟩)] w (SkyPost R B (N + 20) w) := by
  have hmk := make16I
  have hRlt := h.lt
  go_enter Try.func35, Try.ntmps35
  go_wp2_with (go_at_call 40; refine (l21Cells_16 _).mono ?_; rintro e w' ⟨rfl, rfl⟩)
  have hS : skyOwn w R B N (w.alloc (.cells (ci z16).toArray 3)) :=
    ⟨z16, by simp [z16], World.ownsRow_lit w _ 16 (Nat.le_refl _) (by decide) (by decide), h.after (bA (b0 w) _), gAlloc (World.grownBy.refl w _) _, hRlt⟩
  obtain ⟨W, hW⟩ : ∃ W, w.alloc (.cells (ci z16).toArray 3) = W := ⟨_, rfl⟩
  rw [hW] at hS ⊢
  clear hW h hmk
  refine (pick_any R B N 6 W hS.choose_spec.2.2.1 (by omega) (by omega) (by omega)).mono ?_
  rintro e w1 ⟨n, rfl, hn1, hn2, hr1, hg1⟩
  have hS1 := hS.pick hr1 hg1
  clear hS hr1 hg1
  obtain ⟨n, rfl⟩ := Int.eq_ofNat_of_zero_le hn1
  go_wp2
  go_loopw [5] (fun i wr => ∃ k : Nat, k ≤ n ∧ i = .int .i64 k ∧ skyOwn w R B (N + 1 + 2 * k) wr) (fun i _ => n - (intOf i).toNat)
  case atStart => exact ⟨0, Nat.zero_le _, rfl, hS1⟩
  case round =>
    obtain ⟨k, hk, rfl, hS2⟩ := hrel
    by_cases hlt : k < n
    · go_wp2_with (go_at_call 40; refine (l21Cells_16 _).mono ?_; rintro e w' ⟨rfl, rfl⟩)
      refine (pick_any R B (N + 1 + 2 * k) 16 _ hS2.choose_spec.2.2.1 (by omega) (by omega) (by omega)).mono ?_
      rintro e w2 ⟨m, rfl, hm1, hm2, hr2, hg2⟩
      have hS3 := hS2.pick hr2 hg2
      clear hS2 hr2 hg2
      obtain ⟨j, rfl⟩ := Int.eq_ofNat_of_zero_le hm1
      go_wp2_with fail
      refine (pick_any R B (N + 1 + 2 * k + 1) 30 _ hS3.choose_spec.2.2.1 (by omega) (by omega) (by omega)).mono ?_
      rintro e w3 ⟨x, rfl, hx1, hx2, hr3, hg3⟩
      have hS4 := hS3.pick hr3 hg3
      clear hS3 hr3 hg3
      obtain ⟨⟨u, hcell⟩, hfr⟩ := hS4.cell j (by omega)
      have hS5 := hS4.set j (x - 3)
      clear hS4
      go_wp2_with fail
      go_roundw
      case rel => exact ⟨k + 1, by omega, by go_num, hS5⟩
      case measure => simp [intOf]; omega
    · go_wp2_with fail
      refine (pick_any R B (N + 1 + 2 * k) 40 _ hS2.choose_spec.2.2.1 (by omega) (by omega) (by omega)).mono ?_
      rintro e w2 ⟨m, rfl, hm1, hm2, hr2, hg2⟩
      have hS3 := hS2.pick hr2 hg2
      clear hS2 hr2 hg2
      have hNN : N + 1 + 2 * k + 1 + 1 ≤ N + 20 := by omega
      by_cases hm0 : m = 0
      · have e0 : (m == 0) = true := by simp [hm0]
        clear hm0
        go_wp2_with fail
        refine (pick_any R B (N + 1 + 2 * k + 1) 2 _ (hS3.alloc _).choose_spec.2.2.1 (by omega) (by omega) (by omega)).mono ?_
        rintro e w3 ⟨x, rfl, hx1, hx2, hr3, hg3⟩
        have hS4 := (hS3.alloc _).pick hr3 hg3
        have hRw : R < w2.heap.size := hS3.lt
        have l0 : w3.cell? ⟨w2.heap.size, 0, none⟩ = some (.int .i64 100001) := hg3.cell (by simp [go_sem]) (fun e => by injection e with e; simp at e; omega)
        have l1 : w3.cell? ⟨w2.heap.size, 1, none⟩ = some (.int .i64 100000) := hg3.cell (by simp [go_sem]) (fun e => by injection e with e; simp at e; omega)
        obtain ⟨⟨u, hcell⟩, hfr⟩ := hS4.cell 0 (by omega)
        clear hS3 hr3 hg3
        have hP1 := SkyPost.mono (hS4.set 0 100001).whole (show N + 1 + 2 * k + 1 + 1 ≤ N + 20 by omega)
        have hP2 := SkyPost.mono (hS4.set 0 100000).whole (show N + 1 + 2 * k + 1 + 1 ≤ N + 20 by omega)
        have hx : x = 0 ∨ x = 1 := by omega
        rcases hx with rfl | rfl
        · go_wp2_with fail
          go_ret
          exact hP1
        · go_wp2_with fail
          go_ret
          exact hP2
      · have e0 : (m == 0) = false := by simp [hm0]
        by_cases hm1' : m = 1
        · have e1 : (m == 1) = true := by simp [hm1']
          clear hm0 hm1'
          have hP := SkyPost.mono hS3.tail (show N + 1 + 2 * k + 1 ≤ N + 20 by omega)
          go_wp2_with fail
          go_ret
          exact hP
        · have e1 : (m == 1) = false := by simp [hm1']
          clear hm0 hm1'
          have hP := SkyPost.mono hS3.whole (show N + 1 + 2 * k + 1 ≤ N + 20 by omega)
          go_wp2_with fail
          go_ret
          exact hP

def RdPost (size : Nat) (xs : List Value → Prop) (w : World) (e : Ending) (w' : World) : Prop :=
  ∃ (A : Option Addr) (n c : Nat) (l : List Value), e = .returned (.slice A n c) ∧ Rd w' w'.heap.size size A n c l ∧ xs l ∧ Below w.heap.size w w'
set_option maxHeartbeats 400000 in
theorem DrawSkyTransform_any (A : Option Addr) (n c : Nat) (bs : List Int) (w : World) (h : Rd w w.heap.size 1 A n c (cb bs)) (hx : ∀ x ∈ bs, 0 ≤ x ∧ x ≤ 255) (hn : n ≤ 1048576) :
    Calls Try.prog 10 #[.slice A n c] w (RdPost 1 (fun l => ∃ L, l = ci L) w) := by
  have HX := Lib.hid hx
  clear hx
  go_enter Try.func10, Try.ntmps10
  go_wp2_with fail
  refine (l6Open_any _ _ _ bs _ h HX.out hn).mono ?_
  rintro e w1 ⟨rfl, hr, hb⟩
  go_wp2_with fail
  refine (l92Sky_any _ _ _ _ hr (by omega)).mono ?_
  rintro e w2 ⟨A', n', c', L, rfl, hK, hr2, hg⟩
  have hP : RdPost 1 (fun l => ∃ L, l = ci L) w (.returned (.slice A' n' c')) w2 := ⟨_, _, _, _, rfl, hK.rd, ⟨L, rfl⟩, below_of_g hb hg (Nat.le_refl _)⟩
  go_wp2_with fail
  go_ret
  exact hP
def TwoPost (w : World) (e : Ending) (w' : World) : Prop :=
  ∃ (A : Option Addr) (n c : Nat) (L : List Int) (A' : Option Addr) (n' c' : Nat) (L' : List Int), e = .returned (.tuple #[.slice A n c, .slice A' n' c']) ∧ Rd w' w'.heap.size 1 A n c (ci L) ∧ Rd w' w'.heap.size 1 A' n' c' (ci L') ∧ Below w.heap.size w w'
set_option maxHeartbeats 400000 in
theorem DrawSkyFold_any (A : Option Addr) (n c : Nat) (bs : List Int) (w : World) (h : Rd w w.heap.size 1 A n c (cb bs)) (hx : ∀ x ∈ bs, 0 ≤ x ∧ x ≤ 255) (hn : n ≤ 1048576) :
    Calls Try.prog 17 #[.slice A n c] w (TwoPost w) := by
  have HX := Lib.hid hx
  clear hx
  go_enter Try.func17, Try.ntmps17
  go_wp2_with fail
  refine (l6Open_any _ _ _ bs _ h HX.out hn).mono ?_
  rintro e w1 ⟨rfl, hr, hb⟩
  go_wp2_with fail
  refine (l92Sky_any _ _ _ _ hr (by omega)).mono ?_
  rintro e w2 ⟨A1, n1, c1, L1, rfl, hK1, hr2, hg1⟩
  go_wp2_with fail
  refine (l92Sky_any _ _ _ _ hr2 (by omega)).mono ?_
  rintro e w3 ⟨A2, n2, c2, L2, rfl, hK2, hr3, hg2⟩
  have hP : TwoPost w (.returned (.tuple #[.slice A1 n1 c1, .slice A2 n2 c2])) w3 := ⟨_, _, _, L1, _, _, _, L2, rfl, (hK1.next hg2).rd, hK2.rd, below_of_g (below_of_g hb hg1 (Nat.le_refl _)) hg2 (Nat.le_refl _)⟩
  go_wp2_with fail
  go_ret2
  exact hP

end Go.Proofs.Ytdcabfobmkdlmaa
