/- Contracts: the reader of a code, which draws numbers. -/
import Derived.Test.YtjpklbkeofjppaaLeaf
namespace Go.Proofs.Ytjpklbkeofjppaa
open Go.RowKit

def cb (L : List Int) : List Value := L.map (Value.int .u8)
theorem cb_length (L : List Int) : (cb L).length = L.length := by simp [cb]
theorem cb_at (L : List Int) (k : Nat) (h : k < L.length) : (cb L)[k]? = some (.int .u8 L[k]) := by simp [cb, h]

/-- The reader in block R: it has been asked at most N times; the code that it reads lies below block B. -/
structure Rdr (w : World) (R B N : Nat) : Prop where
  ex : ∃ (A : Option Addr) (n c : Nat) (p : Int) (bs : List Int), w.heap[R]? = some (.cells #[.slice A n c, .int .i64 p] 84 (0, 0)) ∧ 0 ≤ p ∧ p ≤ N ∧ Rd w B 1 A n c (cb bs) ∧ (∀ x ∈ bs, 0 ≤ x ∧ x ≤ 255) ∧ B ≤ R ∧ n ≤ 1048576

theorem Rdr.lt {w : World} {R B N : Nat} (h : Rdr w R B N) : R < w.heap.size := by
  obtain ⟨A, n, c, p, bs, hb, _⟩ := h.ex
  exact lt_of_block hb
theorem Rdr.mono {w : World} {R B N N' : Nat} (h : Rdr w R B N) (hN : N ≤ N') : Rdr w R B N' := by
  obtain ⟨A, n, c, p, bs, h1, h2, h3, h4⟩ := h.ex
  exact ⟨A, n, c, p, bs, h1, h2, by omega, h4⟩
/-- Kept behind whatever turns no block below the reader's, nor the reader's. -/
theorem Rdr.keep {w w' : World} {R B N : Nat} (h : Rdr w R B N) (hk : ∀ i, i ≤ R → w'.heap[i]? = w.heap[i]?) : Rdr w' R B N := by
  obtain ⟨A, n, c, p, bs, h1, h2, h3, h4, h5, h6, h7⟩ := h.ex
  refine ⟨A, n, c, p, bs, (hk R (Nat.le_refl _)).trans h1, h2, h3, h4.keep (fun a ha => ?_), h5, h6, h7⟩
  exact World.cell?_of_block (hk a.block (by omega))
theorem Rdr.after {w w' : World} {R B N : Nat} (h : Rdr w R B N) (hb : Below w.heap.size w w') : Rdr w' R B N :=
  h.keep fun i hi => hb.block i (by have := h.lt; omega)

theorem Rdr.drewN {w : World} {R B N : Nat} (h : Rdr w R B N) (k : Nat) : Rdr (w.drewN k) R B N := h.keep fun _ _ => rfl
theorem gDrew {a w : World} {row : Option Nat} (h : a.grownBy w row) (n : Nat) : a.grownBy (w.drewN n) row := ⟨h.os, h.tape, h.output, h.size, h.block⟩
theorem gTrans {a b c : World} {row : Option Nat} (h : a.grownBy b row) (k : b.grownBy c row) : a.grownBy c row :=
  ⟨k.os.trans h.os, k.tape.trans h.tape, k.output.trans h.output, Nat.le_trans h.size k.size, fun i hi hne => (k.block i (Nat.lt_of_lt_of_le hi h.size) hne).trans (h.block i hi hne)⟩
theorem gAlloc {a w : World} {row : Option Nat} (h : a.grownBy w row) (o : Obj) : a.grownBy (w.alloc o) row :=
  ⟨h.os, h.tape, h.output, Nat.le_trans h.size (by simp), fun i hi hne => (Below.heap_alloc w o i (Nat.lt_of_lt_of_le hi h.size)).trans (h.block i hi hne)⟩
theorem gSet {a w : World} {row : Option Nat} (h : a.grownBy w row) {p : Addr} (hp : a.heap.size ≤ p.block) (u : Value) : a.grownBy (w.setCell p u) row :=
  ⟨h.os, h.tape, h.output, by simpa [World.setCell] using h.size, fun i hi hne => (Below.heap_setCell w p u i (by omega)).trans (h.block i hi hne)⟩
theorem gBelow {a w : World} (h : Below a.heap.size a w) (row : Option Nat) : a.grownBy w row := ⟨h.os, h.tape, h.output, h.size, fun i hi _ => h.block i hi⟩
/-- A row of the call's own, written or not, behind a step that writes one other block alone. -/
theorem gOwn {a w w' : World} {row : Option Nat} {e : TypeId} {size n : Nat} {v : Value} {xs : List Value} (h : a.grownBy w row) (ho : w.ownsRow a.heap.size e size v n xs) (hg : w.grownBy w' v.ownBlock) : a.grownBy w' row :=
  ⟨hg.os.trans h.os, hg.tape.trans h.tape, hg.output.trans h.output, Nat.le_trans h.size hg.size, fun i hi hne => (hg.block i (Nat.lt_of_lt_of_le hi h.size) (fun e => by have := (ho.lt i e.symm).1; omega)).trans (h.block i hi hne)⟩
/-- From a reader that the call itself made. -/
theorem below_of_g {a w w' : World} {R : Nat} (h : Below a.heap.size a w) (hg : w.grownBy w' (some R)) (hR : a.heap.size ≤ R) : Below a.heap.size a w' :=
  h.grown hg h.size (fun k hk => by injection hk with hk; omega)
theorem own_g {w w' : World} {base R : Nat} {e : TypeId} {size n : Nat} {v : Value} {xs : List Value} (h : w.ownsRow base e size v n xs) (hg : w.grownBy w' (some R)) (hR : R < base) : w'.ownsRow base e size v n xs :=
  h.kept hg (by
    rcases hv : v.ownBlock with _ | k
    · exact .inl rfl
    · refine .inr (fun e => ?_)
      injection e with e
      have := (h.lt k hv).1
      omega)
theorem Rdr.fresh {w w' : World} {R B N : Nat} {row : Option Nat} (h : Rdr w R B N) (hg : w.grownBy w' row) (hr : ∀ k, row = some k → R < k) : Rdr w' R B N :=
  h.keep fun i hi => hg.block i (by have := h.lt; omega) (fun e => by have := hr i e.symm; omega)
theorem ofInt_i64 (a : Nat) (ha : a < 9223372036854775808) : (BitVec.ofInt 64 (a : Int)).toNat = a := by
  rw [BitVec.ofInt_natCast, BitVec.toNat_ofNat]; exact Nat.mod_eq_of_lt (by omega)
theorem xor_nonneg (x y : Int) (h1 : 0 ≤ x) (h2 : x ≤ 1000000000000000000) (h3 : 0 ≤ y) (h4 : y ≤ 1000000000000000000) : 0 ≤ bits .xor .i64 x y := by
  obtain ⟨a, rfl⟩ := Int.eq_ofNat_of_zero_le h1
  obtain ⟨b, rfl⟩ := Int.eq_ofNat_of_zero_le h3
  have hx : a ^^^ b < 2 ^ 63 := Nat.xor_lt_two_pow (by omega) (by omega)
  show 0 ≤ IntKind.i64.wrap ((BitVec.ofInt 64 (a : Int) ^^^ BitVec.ofInt 64 (b : Int)).toNat : Int)
  rw [BitVec.toNat_xor, ofInt_i64 a (by omega), ofInt_i64 b (by omega), IntKind.wrap_i64]
  omega
theorem mix_bd (x y p l : Int) (hx1 : 0 ≤ x) (hx2 : x ≤ 255) (hy1 : 0 ≤ y) (hy2 : y ≤ 255) (hp1 : 0 ≤ p) (hp2 : p ≤ 1000000000) (hl : 0 < l) :
    0 ≤ IntKind.i64.wrap (IntKind.i64.wrap (IntKind.i64.wrap (IntKind.i64.wrap (IntKind.i64.wrap x * 131) + IntKind.i64.wrap (IntKind.i64.wrap y * 1117)) + IntKind.i64.wrap (p * 29)) + IntKind.i64.wrap (IntKind.i64.wrap (p.tdiv l) * 53)) ∧
    IntKind.i64.wrap (IntKind.i64.wrap (IntKind.i64.wrap (IntKind.i64.wrap (IntKind.i64.wrap x * 131) + IntKind.i64.wrap (IntKind.i64.wrap y * 1117)) + IntKind.i64.wrap (p * 29)) + IntKind.i64.wrap (IntKind.i64.wrap (p.tdiv l) * 53)) ≤ 1000000000000 := by
  have hd : 0 ≤ p.tdiv l ∧ p.tdiv l ≤ p := by
    rw [Int.tdiv_eq_ediv_of_nonneg hp1]
    exact ⟨Int.ediv_nonneg hp1 (by omega), Int.ediv_le_self _ hp1⟩
  obtain ⟨d1, d2⟩ := hd
  rw [IntWalk.i64_in x (by omega), IntWalk.i64_in y (by omega), IntWalk.i64_in (p.tdiv l) (by omega), IntWalk.i64_in (x * 131) (by omega), IntWalk.i64_in (y * 1117) (by omega), IntWalk.i64_in (p * 29) (by omega),
    IntWalk.i64_in (p.tdiv l * 53) (by omega), IntWalk.i64_in (x * 131 + y * 1117) (by omega), IntWalk.i64_in (x * 131 + y * 1117 + p * 29) (by omega), IntWalk.i64_in (x * 131 + y * 1117 + p * 29 + p.tdiv l * 53) (by omega)]
  omega

set_option maxHeartbeats 1000000 in
theorem pick_any (R B N : Nat) (k : Int) (w : World) (h : Rdr w R B N) (hN : N ≤ 1000000000) (hk1 : 1 ≤ k) (hk2 : k ≤ 1000000) :
    Calls Try.prog 55 #[.pointer (some ⟨R, 0, none⟩), .int .i64 k] w fun e w' => ∃ m, e = .returned (.int .i64 m) ∧ 0 ≤ m ∧ m < k ∧ Rdr w' R B (N + 1) ∧ w.grownBy w' (some R) := by
  obtain ⟨A, n, c, p, bs, h1, h2, h3, h4, h5, h6, h7⟩ := h.ex
  have hn := h4.len
  rw [cb_length, Nat.mul_one] at hn
  subst hn
  have hc0 : w.cell? ⟨R, 0, none⟩ = some (.slice A bs.length c) := by rw [cell_of_row w R 0 _ _ _ h1]; rfl
  have hc1 : w.cell? ⟨R, 1, none⟩ = some (.int .i64 p) := by rw [cell_of_row w R 1 _ _ _ h1]; rfl
  have hf1 : w.frozen? ⟨R, 1, none⟩ = false := frozen_of_row w R 1 _ _ h1
  have hS : (w.setCell ⟨R, 1, none⟩ (.int .i64 (p + 1))).heap[R]? = some (.cells #[.slice A bs.length c, .int .i64 (p + 1)] 84 (0, 0)) := heap_setCell_same w R 1 _ _ _ h1
  have hG : w.grownBy (w.setCell ⟨R, 1, none⟩ (.int .i64 (p + 1))) (some R) := ⟨rfl, rfl, rfl, by simp, fun i _ hi => heap_setCell_other w ⟨R, 1, none⟩ i _ (fun e => hi (by simp [e]))⟩
  have hR : Rdr (w.setCell ⟨R, 1, none⟩ (.int .i64 (p + 1))) R B (N + 1) :=
    ⟨A, bs.length, c, p + 1, bs, hS, by omega, by omega, h4.keep (fun a ha => World.cell?_setCell_other w _ a _ (fun e => by subst e; simp at ha; omega)), h5, h6, h7⟩
  have HR := Lib.hid hR
  have HG := Lib.hid hG
  have H1 := Lib.hid h1
  have H5 := Lib.hid h5
  have hd0 : (w.setCell ⟨R, 1, none⟩ (.int .i64 (p + 1))).cell? ⟨R, 0, none⟩ = some (.slice A bs.length c) := by rw [cell_of_row _ R 0 _ _ _ hS]; rfl
  have hd1 : (w.setCell ⟨R, 1, none⟩ (.int .i64 (p + 1))).cell? ⟨R, 1, none⟩ = some (.int .i64 (p + 1)) := by rw [cell_of_row _ R 1 _ _ _ hS]; rfl
  clear hR hG h1 h5 hS h
  have hk3 : ¬ k < 1 := by omega
  by_cases hn0 : bs.length = 0
  · have hd : ((bs.length : Int) == 0) = true := by simp [hn0]
    clear hn0
    go_enter Try.func55, Try.ntmps55
    go_wp2
    go_ret
    exact ⟨0, rfl, by omega, by omega, HR.out, HG.out⟩
  · have hd : ((bs.length : Int) == 0) = false := by simp [hn0]
    by_cases hp : p < bs.length
    · have hpn : p.toNat < bs.length := by omega
      obtain ⟨b, off, rfl, hb, hcell⟩ := h4.at_ (by omega)
      have hc2 := hcell p.toNat _ (cb_at bs p.toNat hpn)
      obtain ⟨hx1, hx2⟩ := H5.out _ (List.getElem_mem hpn)
      obtain ⟨x, hx⟩ : ∃ x, bs[p.toNat] = x := ⟨_, rfl⟩
      rw [hx] at hx1 hx2 hc2
      clear hx hcell
      have hm1 := Int.emod_nonneg x (show k ≠ 0 by omega)
      have hm2 := Int.emod_lt_of_pos x (show 0 < k by omega)
      go_enter Try.func55, Try.ntmps55
      go_wp2
      go_ret
      exact ⟨_, rfl, hm1, hm2, HR.out, HG.out⟩
    · have hl0 : (0 : Int) < (bs.length : Int) := by omega
      obtain ⟨b, off, rfl, hb, hcell⟩ := h4.at_ (by omega)
      obtain ⟨i1, hi1⟩ : ∃ i1 : Int, p.tmod (bs.length : Int) = i1 := ⟨_, rfl⟩
      obtain ⟨i2, hi2⟩ : ∃ i2 : Int, (IntKind.i64.wrap (IntKind.i64.wrap (p * 7) + 3)).tmod (bs.length : Int) = i2 := ⟨_, rfl⟩
      have hb1 : 0 ≤ i1 := by rw [← hi1]; exact Int.tmod_nonneg _ h2
      have hb2 : i1 < (bs.length : Int) := by rw [← hi1]; exact tmod_hi p _ hl0
      have hb3 : 0 ≤ i2 := by rw [← hi2, IntWalk.i64_in (p * 7) (by omega), IntWalk.i64_in (p * 7 + 3) (by omega)]; exact Int.tmod_nonneg _ (by omega)
      have hb4 : i2 < (bs.length : Int) := by rw [← hi2]; exact tmod_hi _ _ hl0
      have hn1 : i1.toNat < bs.length := by omega
      have hn2 : i2.toNat < bs.length := by omega
      have hc2 := hcell i1.toNat _ (cb_at bs i1.toNat hn1)
      have hc3 := hcell i2.toNat _ (cb_at bs i2.toNat hn2)
      obtain ⟨hx1, hx2⟩ := H5.out _ (List.getElem_mem hn1)
      obtain ⟨hy1, hy2⟩ := H5.out _ (List.getElem_mem hn2)
      obtain ⟨x, hx⟩ : ∃ x, bs[i1.toNat] = x := ⟨_, rfl⟩
      obtain ⟨y, hy⟩ : ∃ y, bs[i2.toNat] = y := ⟨_, rfl⟩
      rw [hx] at hx1 hx2 hc2
      rw [hy] at hy1 hy2 hc3
      clear hx hy hcell
      go_enter Try.func55, Try.ntmps55
      go_wp2
      go_quiet (fail)
      obtain ⟨X, hX⟩ : ∃ X, IntKind.i64.wrap (IntKind.i64.wrap (IntKind.i64.wrap (IntKind.i64.wrap (IntKind.i64.wrap x * 131) + IntKind.i64.wrap (IntKind.i64.wrap y * 1117)) + IntKind.i64.wrap (p * 29)) + IntKind.i64.wrap (IntKind.i64.wrap (p.tdiv (bs.length : Int)) * 53)) = X := ⟨_, rfl⟩
      have hXb := mix_bd x y p bs.length hx1 hx2 hy1 hy2 h2 (by omega) hl0
      rw [hX] at hXb ⊢
      clear hX
      obtain ⟨hX1, hX2⟩ := hXb
      have hz := xor_nonneg X (X / 64) hX1 (by omega) (by omega) (by omega)
      obtain ⟨z, hzz⟩ : ∃ z, bits .xor .i64 X (X / 64) = z := ⟨_, rfl⟩
      rw [hzz] at hz
      have hm1 := Int.emod_nonneg z (show k ≠ 0 by omega)
      have hm2 := Int.emod_lt_of_pos z (show 0 < k by omega)
      go_wp2
      go_ret
      exact ⟨_, rfl, hm1, hm2, HR.out.drewN _, gDrew HG.out _⟩

theorem cb_take (L : List Int) (k : Nat) : (cb L).take (k * 1) = cb (L.take k) := by simp [cb, List.map_take]
set_option maxHeartbeats 400000 in
theorem l6Open_any (A : Option Addr) (n c : Nat) (bs : List Int) (w : World) (h : Rd w w.heap.size 1 A n c (cb bs)) (hx : ∀ x ∈ bs, 0 ≤ x ∧ x ≤ 255) (hn : n ≤ 1048576) :
    Calls Try.prog 47 #[.slice A n c] w fun e w' => e = .returned (.pointer (some ⟨w.heap.size, 0, none⟩)) ∧ Rdr w' w.heap.size w.heap.size 0 ∧ Below w.heap.size w w' := by
  have hm := h.most
  have hcap := h.cap
  by_cases hl : 2000 < n
  · have hr := h.take 2000 (by omega)
    rw [cb_take] at hr
    have HX := Lib.hid (show ∀ x ∈ bs.take 2000, 0 ≤ x ∧ x ≤ 255 from fun x hx' => hx x (List.mem_of_mem_take hx'))
    clear hx
    go_enter Try.func47, Try.ntmps47
    go_wp2
    go_ret
    refine ⟨rfl, ⟨A, 2000, c, 0, bs.take 2000, heap_alloc_new _ _, by omega, by omega, (hr.below ((b0 w).alloc (Nat.le_refl _) _)), HX.out, Nat.le_refl _, by omega⟩, bA (b0 w) _⟩
  · have HX := Lib.hid hx
    clear hx
    go_enter Try.func47, Try.ntmps47
    go_wp2
    go_ret
    refine ⟨rfl, ⟨A, n, c, 0, bs, heap_alloc_new _ _, by omega, by omega, (h.below ((b0 w).alloc (Nat.le_refl _) _)), HX.out, Nat.le_refl _, hn⟩, bA (b0 w) _⟩

end Go.Proofs.Ytjpklbkeofjppaa

