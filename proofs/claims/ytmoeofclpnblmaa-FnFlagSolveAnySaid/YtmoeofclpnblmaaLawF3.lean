/- The laws FnFlagSolveMore, FnFlagSolveAny. Written by lawsF2.py. -/
import Derived.Test.YtmoeofclpnblmaaLawF2
namespace Go.Proofs.Ytmoeofclpnblmaa
open Go.RowKit

theorem own_head3 {w : World} {base size n : Nat} {e : TypeId} {v : Value} {xs : List Value} (h : w.ownsRow base e size v n xs) (hn : 0 < n) : ∃ g c, v = .slice (some ⟨g, 0, none⟩) n c := by
  rcases h.2 with ⟨_, h0⟩ | ⟨g, cap, cur, rfl, _⟩
  · omega
  · exact ⟨g, cap, rfl⟩
theorem set_phase9 {X : List (Int × Int)} {k : Nat} (hk : k < X.length) (z : Int) : (cp X).set (k * 2 + 1) (.int .i64 z) = cp (X.set k (X[k].1, z)) := by
  rw [cp_set]
  congr 1
  apply (List.ext_getElem? ?_)
  intro q
  by_cases e : q = k * 2
  · subst e
    have := (cp_at X k hk).1
    rw [Nat.mul_comm 2 k] at this
    rw [List.getElem?_set_self (by rw [cp_length]; omega), this]
  · rw [List.getElem?_set_ne (fun h => e h.symm)]
theorem flag_len {n : Int} {L M : List (Int × Int)} {F : List Bool} (h : Vm.FlagOk n L M F) : 0 < F.length ∧ F.length ≤ 21 ∧ L.length = F.length ∧ (F.length : Int) = Vm.bmany n := by
  have h1 := (Vm.visB_iff _ _).1 h.1
  have h2 := (Vm.manyB_iff _).1 h1.1
  have h3 := Vm.bidx_bd (n := n) (i := 0) (j := 1) (by omega) (by omega) (by omega) (by omega)
  have h4 := h.2.2.1
  have h5 := Vm.bmany_le n
  exact ⟨by omega, by omega, by omega, h4⟩
set_option maxRecDepth 100000 in
set_option maxHeartbeats 8000000 in
theorem law_flagSolveMore (A : Option Addr) (n c : Nat) (bs : List Int) (A' : Option Addr) (n' c' : Nat) (w : World) (h : Rd w w.heap.size 1 A n c (cb bs)) (hx : ∀ x ∈ bs, 0 ≤ x ∧ x ≤ 255) (hn' : n' ≤ 9223372036854775807) :
    Calls Try.prog 3 #[.slice A n c, .slice A' n' c'] w fun e w' => e = .returned (.bool true) ∧ Below w.heap.size w w' := by
  have hm := h.most
  have hcap := h.cap
  have HX := Lib.hid hx
  clear hx
  by_cases hz0 : 1048576 < n
  · have hd0 : decide ((1048576 : Int) < (n : Int)) = true := by simp; omega
    clear hz0
    go_enter Try.func3, Try.ntmps3
    go_wp2
    go_ret
    exact ⟨rfl, b0 _⟩
  have hd0 : decide ((1048576 : Int) < (n : Int)) = false := by simp; omega
  by_cases hz1 : 1048576 < n'
  · have hd1 : decide ((1048576 : Int) < (n' : Int)) = true := by simp; omega
    clear hz0 hz1
    go_enter Try.func3, Try.ntmps3
    go_wp2
    go_ret
    exact ⟨rfl, b0 _⟩
  have hd1 : decide ((1048576 : Int) < (n' : Int)) = false := by simp; omega
  go_enter Try.func3, Try.ntmps3
  go_wp2_with fail
  refine (DrawFlagSolve_any _ _ _ bs _ h HX.out (by omega)).mono ?_
  rintro e w1 ⟨N, A1, m1, c1, L, AM, mM, cM, M, AF, qF, cF, F, hN, rfl, hr, hm, hf, hB⟩
  go_wp2_with fail
  refine (FlagSolve_any _ _ _ _ _ _ _ _ _ N L M F _ hr hm hf).mono ?_
  rintro e w2 ⟨v2, ok, P, rfl, hres, ho2, hB2⟩
  obtain ⟨A2, c2, rfl⟩ := own_form ho2
  replace hr := hr.after hB2
  replace hm := hm.after hB2
  replace hf := hf.after hB2
  replace hB := bT hB hB2
  clear hB2
  have hx := Rd.of_own ho2
  clear ho2
  go_wp2_with fail
  refine (sFlagSolve_any _ _ _ _ _ _ _ _ _ N L M F _ hr hm hf).mono ?_
  rintro e w3 ⟨v3, ok2, P2, rfl, hres2, ho3, hB3⟩
  obtain ⟨eo, eP⟩ := Vm.flag_one hres hres2
  subst eo eP
  clear hres2
  obtain ⟨A3, c3, rfl⟩ := own_form ho3
  replace hr := hr.after hB3
  replace hm := hm.after hB3
  replace hf := hf.after hB3
  replace hx := hx.after hB3
  replace hB := bT hB hB3
  clear hB3
  have hy := Rd.of_own ho3
  clear ho3
  cases ok
  · clear hres
    go_wp2_with fail
    with_reducible refine (sameInts_self _ _ _ _ _ _ _ _ hx hy).mono ?_
    rintro e w4 ⟨rfl, hB4⟩
    replace hr := hr.after hB4
    replace hm := hm.after hB4
    replace hf := hf.after hB4
    replace hx := hx.after hB4
    replace hy := hy.after hB4
    replace hB := bT hB hB4
    clear hB4
    go_wp2_with fail
    with_reducible refine (sameInts_self _ _ _ _ _ _ _ _ hx hy).mono ?_
    rintro e w5 ⟨rfl, hB5⟩
    replace hr := hr.after hB5
    replace hm := hm.after hB5
    replace hf := hf.after hB5
    replace hx := hx.after hB5
    replace hy := hy.after hB5
    replace hB := bT hB hB5
    clear hB5
    go_wp2_with fail
    go_ret
    exact ⟨rfl, hB⟩
  ·
    obtain ⟨hok, hval⟩ : Vm.FlagOk N L M F ∧ Vm.FlagVal (N : Int).toNat L M F P := by
      rcases hres with ⟨_, h1, h2⟩ | ⟨h1, _⟩
      · exact ⟨h1, h2⟩
      · cases h1
    obtain ⟨l1, l2, l3, l4⟩ := flag_len hok
    have HK := Lib.hid hok
    have HRES := Lib.hid hres
    have HBM := Lib.hid l4.symm
    have HL3 := Lib.hid l3
    have l5 : 0 < L.length := by omega
    have l6 : L.length ≤ 21 := by omega
    clear hres hok hval l4 l3
    go_wp2_with fail
    with_reducible refine (sameInts_self _ _ _ _ _ _ _ _ hx hy).mono ?_
    rintro e w4 ⟨rfl, hB4⟩
    replace hr := hr.after hB4
    replace hm := hm.after hB4
    replace hf := hf.after hB4
    replace hx := hx.after hB4
    replace hy := hy.after hB4
    replace hB := bT hB hB4
    clear hB4
    obtain ⟨bb, off, eA, hbb, hcells⟩ := hf.at_ (by have := hf.len; rw [cbo_length] at this; omega)
    subst eA
    have hfc := hf.cap
    have hfm := hf.most
    have mF : qF = F.length := by have := hf.len; rw [cbo_length] at this; omega
    subst mF
    obtain ⟨i0, hi, hq0, hq1, hq2⟩ := info_parts infoBool0
    have hlit := World.ownsRow_lit (base := w4.heap.size) (e := 4) (size := 1) w4 #[] 0 (Nat.le_refl _) (by decide) rfl
    have i1 := Int.emod_nonneg (n' : Int) (show (F.length : Int) ≠ 0 by omega)
    have i2 := Int.emod_lt_of_pos (n' : Int) (show (0 : Int) < (F.length : Int) by omega)
    obtain ⟨i, hii⟩ := Vm.nat_of (i := (n' : Int) % (F.length : Int)) i1
    have iF : i < F.length := by omega
    have hl0 : ((F.length : Int) == 0) = false := by rw [beq_eq_false_iff_ne]; omega
    have htm : (n' : Int).tmod (F.length : Int) = (i : Int) := by rw [Int.tmod_eq_emod_of_nonneg (by omega)]; exact hii
    clear i1 i2
    go_wp2_with (at_builtin; refine wpList_append_own _ rfl _ _ 24 rfl w4.heap.size 4 i0 _ 1 1 Try.underlying24 hi hq0 hq1 hq2 rfl (by decide) _ _ _ rfl hlit ⟨bb, off, none⟩ F.length cF (cbo F) rfl (by rw [cbo_length, Nat.mul_one]) ?e1 (cbo_one F) ?e3 ?e4 ?e5 ?_)
    case e1 =>
      intro j u hj
      have ee : ((⟨bb, off, none⟩ : Addr).add j) = ⟨bb, off + j, none⟩ := by unfold Addr.add; split <;> simp_all
      have := hcells j u hj
      rw [ee, World.cell?_alloc_past _ _ _ (block_lt_of_cell this)]
      exact this
    case e3 => unfold maxLen; omega
    case e4 => omega
    case e5 => simp
    intro v' w9 hown' hgrow _
    obtain ⟨gg, cap, rfl⟩ := own_head3 hown' (by omega)
    have hg1 := (hown'.lt gg rfl).1
    have hb9 := own_below (bA (b0 w4) _) hlit hgrow
    have hownF : w9.ownsRow w4.heap.size 4 1 (.slice (some ⟨gg, 0, none⟩) F.length cap) F.length (cbo F) := by simpa using hown'
    clear hown' hgrow hlit
    have ci9 := (hownF.cellAt i (by omega)).trans (cbo_at F i iF)
    have fr9 := hownF.frozenAt i
    have capF := (Rd.of_own hownF).cap
    have hS := (hownF.stored i (.bool true)).1
    rw [← cbo_set] at hS
    have hb10 := bS hb9 (p := ⟨gg, i, none⟩) hg1 (.bool true)
    obtain ⟨z, hz⟩ : ∃ z, F[i] = z := ⟨_, rfl⟩
    rw [hz] at ci9
    clear hz
    have iFi : (i : Int) < (F.length : Int) := by omega
    have hmkB := fun w => makeB w F.length (by omega)
    go_wp2_with fail
    obtain ⟨W, hW⟩ : ∃ W, w9.setCell ⟨gg, i, none⟩ (.bool true) = W := ⟨_, rfl⟩
    have hWs : W.heap.size = w9.heap.size := by rw [← hW]; simp
    rw [hW] at hS hb10 ⊢
    clear hW ci9 fr9 hownF hb9 hf hcells hmkB
    replace hr := hr.after hb10
    replace hm := hm.after hb10
    replace hx := hx.after hb10
    replace hy := hy.after hb10
    replace hB := bT hB hb10
    clear hb10
    have hrep := rep_rd W F.length (by omega)
    rw [hWs] at hrep
    clear hWs
    have hXo := hS.alloc (.cells (cbo (List.replicate F.length false)).toArray 4)
    have hXr := Rd.of_own hXo
    have hbR := bA (b0 W) (.cells (cbo (List.replicate F.length false)).toArray 4)
    clear hXo hS
    replace hr := hr.after hbR
    replace hm := hm.after hbR
    replace hx := hx.after hbR
    replace hy := hy.after hbR
    replace hB := bT hB hbR
    clear hbR
    obtain ⟨W2, hW2⟩ : ∃ W2, W.alloc (.cells (cbo (List.replicate F.length false)).toArray 4) = W2 := ⟨_, rfl⟩
    rw [hW2] at hr hm hx hy hrep hXr hB ⊢
    clear hW2
    with_reducible refine (FlagSolve_any _ _ _ _ _ _ _ _ _ N L M (F.set i true) _ hr hm hXr).mono ?_
    rintro e w5 ⟨v3, ok3, P3, rfl, hres3, _, hB5⟩
    replace hr := hr.after hB5
    replace hm := hm.after hB5
    replace hx := hx.after hB5
    replace hy := hy.after hB5
    replace hrep := hrep.after hB5
    replace hXr := hXr.after hB5
    replace hB := bT hB hB5
    clear hB5
    obtain rfl : ok3 = true := by
      rcases hres3 with ⟨h0, _⟩ | ⟨_, h0, _⟩
      · exact h0
      · exact absurd (Vm.more_set HK.out i iF) h0
    clear hres3
    go_wp2_with fail
    refine (FlagSolve_any _ _ _ _ _ _ _ _ _ N L M (List.replicate F.length false) _ hr hm hrep).mono ?_
    rintro e w6 ⟨v6, ok4, P4, rfl, hres4, ho6, hB6⟩
    obtain ⟨A6, c6, rfl⟩ := own_form ho6
    replace hr := hr.after hB6
    replace hm := hm.after hB6
    replace hx := hx.after hB6
    replace hy := hy.after hB6
    replace hrep := hrep.after hB6
    replace hXr := hXr.after hB6
    replace hB := bT hB hB6
    clear hB6
    have hu := Rd.of_own ho6
    clear ho6
    go_wp2_with fail
    refine (SolvePhases_any _ _ _ _ _ _ N L M _ hr hm).mono ?_
    rintro e w7 ⟨v7, ok5, P5, rfl, hres5, ho7, hB7⟩
    rw [HBM.out, Int.toNat_natCast] at hres5
    obtain ⟨eo, eP⟩ := Vm.flag_one hres4 hres5
    subst eo eP
    clear hres4 hres5
    obtain ⟨A7, c7, rfl⟩ := own_form ho7
    replace hr := hr.after hB7
    replace hm := hm.after hB7
    replace hx := hx.after hB7
    replace hy := hy.after hB7
    replace hrep := hrep.after hB7
    replace hXr := hXr.after hB7
    replace hu := hu.after hB7
    replace hB := bT hB hB7
    clear hB7
    have hv := Rd.of_own ho7
    clear ho7
    have hqq : (ok4 == ok4) = true := by simp
    go_wp2_with fail
    with_reducible refine (sameInts_self _ _ _ _ _ _ _ _ hu hv).mono ?_
    rintro e w8 ⟨rfl, hB8⟩
    replace hr := hr.after hB8
    replace hm := hm.after hB8
    replace hx := hx.after hB8
    replace hy := hy.after hB8
    replace hrep := hrep.after hB8
    replace hXr := hXr.after hB8
    replace hu := hu.after hB8
    replace hv := hv.after hB8
    replace hB := bT hB hB8
    clear hB8
    go_wp2_with fail
    go_ret
    exact ⟨rfl, hB⟩
/-- Which phases have been turned. -/
def TurnR (L X : List (Int × Int)) (F : List Bool) (c : Int) (k : Nat) : Prop := X.length = L.length ∧ ∀ j : Nat, j < L.length → X.getD j (0, 0) = if j < k ∧ F.getD j false = true then ((L.getD j (0, 0)).1, ((L.getD j (0, 0)).2 + c) % 360) else L.getD j (0, 0)
theorem TurnR.start (L : List (Int × Int)) (F : List Bool) (c : Int) : TurnR L L F c 0 := ⟨rfl, fun j _ => by rw [if_neg (by omega)]⟩
theorem TurnR.skip {L X : List (Int × Int)} {F : List Bool} {c : Int} {k : Nat} (h : TurnR L X F c k) (hf : F.getD k false = false) : TurnR L X F c (k + 1) := ⟨h.1, fun j hj => by
  rw [h.2 j hj]
  by_cases e : j = k
  · subst e; rw [hf]; simp
  · have : (j < k ∧ F.getD j false = true) ↔ (j < k + 1 ∧ F.getD j false = true) := by constructor <;> (rintro ⟨a, b⟩; exact ⟨by omega, b⟩)
    simp only [this]⟩
theorem TurnR.at_ {L X : List (Int × Int)} {F : List Bool} {c : Int} {k : Nat} (h : TurnR L X F c k) (hk : k < L.length) : X.getD k (0, 0) = L.getD k (0, 0) := by rw [h.2 k hk, if_neg (by omega)]
theorem TurnR.set {L X : List (Int × Int)} {F : List Bool} {c : Int} {k : Nat} (h : TurnR L X F c k) (hk : k < L.length) (hf : F.getD k false = true) (p : Int × Int) (hp : L.getD k (0, 0) = p) : TurnR L (X.set k (p.1, (p.2 + c) % 360)) F c (k + 1) := by
  refine ⟨by simpa using h.1, fun j hj => ?_⟩
  by_cases e : j = k
  · subst e
    rw [List.getD_eq_getElem?_getD, List.getElem?_set_self (by rw [h.1]; exact hk), if_pos ⟨by omega, hf⟩, hp]; rfl
  · rw [List.getD_eq_getElem?_getD, List.getElem?_set_ne (fun h => e h.symm), ← List.getD_eq_getElem?_getD, h.2 j hj]
    have : (j < k ∧ F.getD j false = true) ↔ (j < k + 1 ∧ F.getD j false = true) := by constructor <;> (rintro ⟨a, b⟩; exact ⟨by omega, b⟩)
    simp only [this]
theorem TurnR.done {n : Int} {L X : List (Int × Int)} {F : List Bool} {c : Int} {k : Nat} (h : TurnR L X F c k) (hL : Vm.visB n L = true) (j : Nat) (hj : j < L.length) : (F.getD j false = false → X.getD j (0, 0) = L.getD j (0, 0)) ∧ (X.getD j (0, 0)).1 = (L.getD j (0, 0)).1 ∧ 0 ≤ (X.getD j (0, 0)).2 ∧ (X.getD j (0, 0)).2 < 360 := by
  have e2 : L.getD j (0, 0) = L[j] := by simp [hj]
  have h2 := (Vm.visOk_iff _ _).1 (List.all_eq_true.1 ((Vm.visB_iff _ _).1 hL).2.2 _ (List.getElem_mem hj))
  rw [h.2 j hj]
  refine ⟨fun hf => by rw [if_neg (by rw [hf]; simp)], ?_⟩
  split
  · exact ⟨rfl, by simp only; omega, by simp only; omega⟩
  · rw [e2]; exact ⟨rfl, h2.2⟩
set_option maxRecDepth 100000 in
set_option maxHeartbeats 8000000 in
theorem law_flagSolveAny (A : Option Addr) (n c : Nat) (bs : List Int) (A' : Option Addr) (n' c' : Nat) (w : World) (h : Rd w w.heap.size 1 A n c (cb bs)) (hx : ∀ x ∈ bs, 0 ≤ x ∧ x ≤ 255) (hn' : n' ≤ 9223372036854775807) :
    Calls Try.prog 11 #[.slice A n c, .slice A' n' c'] w fun e w' => e = .returned (.bool true) ∧ Below w.heap.size w w' := by
  have hm := h.most
  have hcap := h.cap
  have HX := Lib.hid hx
  clear hx
  by_cases hz0 : 1048576 < n
  · have hd0 : decide ((1048576 : Int) < (n : Int)) = true := by simp; omega
    clear hz0
    go_enter Try.func11, Try.ntmps11
    go_wp2
    go_ret
    exact ⟨rfl, b0 _⟩
  have hd0 : decide ((1048576 : Int) < (n : Int)) = false := by simp; omega
  by_cases hz1 : 1048576 < n'
  · have hd1 : decide ((1048576 : Int) < (n' : Int)) = true := by simp; omega
    clear hz0 hz1
    go_enter Try.func11, Try.ntmps11
    go_wp2
    go_ret
    exact ⟨rfl, b0 _⟩
  have hd1 : decide ((1048576 : Int) < (n' : Int)) = false := by simp; omega
  go_enter Try.func11, Try.ntmps11
  go_wp2_with fail
  refine (DrawFlagSolve_any _ _ _ bs _ h HX.out (by omega)).mono ?_
  rintro e w1 ⟨N, A1, m1, c1, L, AM, mM, cM, M, AF, qF, cF, F, hN, rfl, hr, hm, hf, hB⟩
  go_wp2_with fail
  refine (FlagSolve_any _ _ _ _ _ _ _ _ _ N L M F _ hr hm hf).mono ?_
  rintro e w2 ⟨v2, ok, P, rfl, hres, ho2, hB2⟩
  obtain ⟨A2, c2, rfl⟩ := own_form ho2
  replace hr := hr.after hB2
  replace hm := hm.after hB2
  replace hf := hf.after hB2
  replace hB := bT hB hB2
  clear hB2
  have hx := Rd.of_own ho2
  clear ho2
  go_wp2_with fail
  refine (sFlagSolve_any _ _ _ _ _ _ _ _ _ N L M F _ hr hm hf).mono ?_
  rintro e w3 ⟨v3, ok2, P2, rfl, hres2, ho3, hB3⟩
  obtain ⟨eo, eP⟩ := Vm.flag_one hres hres2
  subst eo eP
  clear hres2
  obtain ⟨A3, c3, rfl⟩ := own_form ho3
  replace hr := hr.after hB3
  replace hm := hm.after hB3
  replace hf := hf.after hB3
  replace hx := hx.after hB3
  replace hB := bT hB hB3
  clear hB3
  have hy := Rd.of_own ho3
  clear ho3
  cases ok
  · clear hres
    go_wp2_with fail
    with_reducible refine (sameInts_self _ _ _ _ _ _ _ _ hx hy).mono ?_
    rintro e w4 ⟨rfl, hB4⟩
    replace hr := hr.after hB4
    replace hm := hm.after hB4
    replace hf := hf.after hB4
    replace hx := hx.after hB4
    replace hy := hy.after hB4
    replace hB := bT hB hB4
    clear hB4
    go_wp2_with fail
    with_reducible refine (sameInts_self _ _ _ _ _ _ _ _ hx hy).mono ?_
    rintro e w5 ⟨rfl, hB5⟩
    replace hr := hr.after hB5
    replace hm := hm.after hB5
    replace hf := hf.after hB5
    replace hx := hx.after hB5
    replace hy := hy.after hB5
    replace hB := bT hB hB5
    clear hB5
    go_wp2_with fail
    go_ret
    exact ⟨rfl, hB⟩
  ·
    obtain ⟨hok, hval⟩ : Vm.FlagOk N L M F ∧ Vm.FlagVal (N : Int).toNat L M F P := by
      rcases hres with ⟨_, h1, h2⟩ | ⟨h1, _⟩
      · exact ⟨h1, h2⟩
      · cases h1
    obtain ⟨l1, l2, l3, l4⟩ := flag_len hok
    have HK := Lib.hid hok
    have HRES := Lib.hid hres
    have HBM := Lib.hid l4.symm
    have HL3 := Lib.hid l3
    have l5 : 0 < L.length := by omega
    have l6 : L.length ≤ 21 := by omega
    clear hres hok hval l4 l3
    go_wp2_with fail
    with_reducible refine (sameInts_self _ _ _ _ _ _ _ _ hx hy).mono ?_
    rintro e w4 ⟨rfl, hB4⟩
    replace hr := hr.after hB4
    replace hm := hm.after hB4
    replace hf := hf.after hB4
    replace hx := hx.after hB4
    replace hy := hy.after hB4
    replace hB := bT hB hB4
    clear hB4
    have mL : m1 = L.length := by have := hr.len; rw [cp_length] at this; omega
    subst mL
    obtain ⟨bb, off, eA, hbb, hcells⟩ := hr.at_ (by omega)
    subst eA
    have hrc := hr.cap
    have hrm := hr.most
    have mF : qF = F.length := by have := hf.len; rw [cbo_length] at this; omega
    subst mF
    have hfc := hf.cap
    have hfm := hf.most
    obtain ⟨i0, hi, hq0, hq1, hq2⟩ := info_parts infoVis
    have hlit := World.ownsRow_lit (base := w4.heap.size) (e := 41) (size := 2) w4 #[] 0 (Nat.le_refl _) (by decide) rfl
    go_wp2_with (at_builtin; refine wpList_append_own _ rfl _ _ 23 rfl w4.heap.size 41 i0 _ 2 16 Try.underlying23 hi hq0 hq1 hq2 rfl (by decide) _ _ _ rfl hlit ⟨bb, off, none⟩ L.length c1 (cp L) rfl (by rw [cp_length]) ?e1 (cp_one L) ?e3 ?e4 ?e5 ?_)
    case e1 =>
      intro j u hj
      have ee : ((⟨bb, off, none⟩ : Addr).add j) = ⟨bb, off + j, none⟩ := by unfold Addr.add; split <;> simp_all
      have := hcells j u hj
      rw [ee, World.cell?_alloc_past _ _ _ (block_lt_of_cell this)]
      exact this
    case e3 => unfold maxLen; omega
    case e4 => omega
    case e5 => simp
    intro v' w9 hown' hgrow _
    obtain ⟨gg, cap, rfl⟩ := own_head3 hown' (by omega)
    have hg1 := (hown'.lt gg rfl).1
    have hb9 := own_below (bA (b0 w4) _) hlit hgrow
    have hownL : w9.ownsRow w4.heap.size 41 2 (.slice (some ⟨gg, 0, none⟩) L.length cap) L.length (cp L) := by simpa using hown'
    clear hown' hgrow hlit hcells
    have HVL := Lib.hid HK.out.1
    have capL := (Rd.of_own hownL).cap
    go_wp2_with fail
    go_loopw [14] (fun v wr => ∃ (k : Nat) (X : List (Int × Int)), k ≤ L.length ∧ v = .int .i64 k ∧ Hid (TurnR L X F (n' : Int) k) ∧ wr.ownsRow w4.heap.size 41 2 (.slice (some ⟨gg, 0, none⟩) L.length cap) L.length (cp X) ∧ Below w4.heap.size w4 wr) (fun v _ => L.length - (intOf v).toNat)
    case atStart => exact ⟨0, L, Nat.zero_le _, rfl, TurnR.start _ _ _, hownL, hb9⟩
    case round =>
      clear hownL hb9
      obtain ⟨k, X, hk, rfl, hT, hown, hb⟩ := hrel
      by_cases hlt : k < L.length
      · have hkF : k < F.length := by have := HL3.out; omega
        have hkX : k < X.length := by rw [hT.out.1]; exact hlt
        obtain ⟨b3, off3, rfl, hb3, hc3⟩ := (hf.below hb).bool_at hkF
        have x1 := cp_at X k hkX
        rw [Nat.mul_comm 2 k] at x1
        have k1 := (hown.cellAt (k * 2) (by omega)).trans x1.1
        have k2 := (hown.cellAt (k * 2 + 1) (by omega)).trans x1.2
        have fr := hown.frozenAt (k * 2 + 1)
        have eX : X[k] = L.getD k (0, 0) := by have := hT.out.at_ hlt; rw [← this]; simp [hkX]
        have hph := (Vm.visOk_iff _ _).1 (List.all_eq_true.1 ((Vm.visB_iff _ _).1 HVL.out).2.2 _ (List.getElem_mem hlt))
        have eL : L.getD k (0, 0) = L[k] := by simp [hlt]
        rw [← eL] at hph
        have eF : F.getD k false = F[k] := by simp [hkF]
        obtain ⟨p, hp⟩ : ∃ p, L.getD k (0, 0) = p := ⟨_, rfl⟩
        rw [eX, hp] at k1 k2
        rw [hp] at hph
        have EX := Lib.hid (eX.trans hp)
        obtain ⟨_, p1, p2⟩ := hph
        have HP := Lib.hid hp
        obtain ⟨f, hff⟩ : ∃ f, F[k] = f := ⟨_, rfl⟩
        rw [hff] at hc3 eF
        have hkc : (k : Int) < (L.length : Int) := by omega
        clear hp hff eL eX x1
        cases f
        · have ht2 := Lib.hid (hT.out.skip eF)
          clear eF
          go_wp2_with fail
          go_roundw
          case rel => exact ⟨k + 1, X, by omega, by go_num, ht2, hown, hb⟩
          case measure => simp [intOf]; omega
        · have ht2 := Lib.hid (hT.out.set hlt eF p HP.out)
          have hS2 := (hown.stored (k * 2 + 1) (.int .i64 ((p.2 + (n' : Int)) % 360))).1
          have eS := set_phase9 hkX ((p.2 + (n' : Int)) % 360)
          rw [EX.out] at eS
          rw [eS] at hS2
          have hb2 := bS hb (p := ⟨gg, k * 2 + 1, none⟩) hg1 (.int .i64 ((p.2 + (n' : Int)) % 360))
          clear eS eF hown
          go_wp2_with fail
          go_roundw
          case rel => exact ⟨k + 1, _, by omega, by go_num, ht2, hS2, hb2⟩
          case measure => simp [intOf]; omega
      · have hke : k = L.length := by omega
        subst hke
        have hTd := Lib.hid (fun j hj => hT.out.done HVL.out j hj)
        have hXl := Lib.hid hT.out.1
        have hrdX := Rd.of_own hown
        have hm9 := hm.after hb
        have hf9 := hf.after hb
        have hx9 := hx.after hb
        have hB9 := bT hB hb
        clear hr hm hf hx hy hB hown hb
        go_wp2_with fail
        refine (FlagSolve_any _ _ _ _ _ _ _ _ _ N X M F _ hrdX hm9 hf9).mono ?_
        rintro e w20 ⟨v20, ok3, P3, rfl, hres3, ho3, hb20⟩
        obtain ⟨eo, eP⟩ := Vm.flag_one HRES.out (Vm.flag_turn HVL.out hXl.out hTd.out hres3)
        subst eo eP
        clear hres3
        obtain ⟨A20, c20, rfl⟩ := own_form ho3
        have hx20 := hx9.after hb20
        have hB20 := bT hB9 hb20
        go_wp2_with fail
        refine (sameInts_self _ _ _ _ _ _ _ _ (Rd.of_own ho3) hx20).mono ?_
        rintro e w21 ⟨rfl, hb21⟩
        go_wp2_with fail
        go_ret
        exact ⟨rfl, bT hB20 hb21⟩

end Go.Proofs.Ytmoeofclpnblmaa
