/- The laws FnInverse, FnInverseOne. Written by lawsA3.py. -/
import Derived.Test.YtdcabfobmkdlmaaDrawG
import Derived.Test.YtdcabfobmkdlmaaLawA1
import Derived.Deep.DeepCutAuto
namespace Go.Proofs.Ytdcabfobmkdlmaa
open Go.RowKit

theorem own_headA {w : World} {base size n : Nat} {e : TypeId} {v : Value} {xs : List Value} (h : w.ownsRow base e size v n xs) (hn : 0 < n) : ∃ g c, v = .slice (some ⟨g, 0, none⟩) n c := by
  rcases h.2 with ⟨_, h0⟩ | ⟨g, cap, cur, rfl, _⟩
  · omega
  · exact ⟨_, _, rfl⟩
theorem cp_setre (G : List (Int × Int)) (k : Nat) (hk : k < G.length) : (cp G).set (k * 2) (.int .i64 (G[k].1 + 1)) = cp (G.set k (G[k].1 + 1, G[k].2)) := by
  have q0 := cp_at G k hk
  rw [Nat.mul_comm 2 k] at q0
  rw [cp_set]
  obtain ⟨q2, q3⟩ := List.getElem?_eq_some_iff.1 q0.2
  rw [List.set_comm _ _ (by omega)]
  have h6 : (cp G).set (k * 2 + 1) (.int .i64 G[k].2) = cp G := by rw [← q3]; exact List.set_getElem_self q2
  rw [h6]
set_option maxRecDepth 100000 in
set_option maxHeartbeats 4000000 in
theorem law_inverse (A : Option Addr) (n c : Nat) (bs : List Int) (w : World) (h : Rd w w.heap.size 1 A n c (cb bs)) (hx : ∀ x ∈ bs, 0 ≤ x ∧ x ≤ 255) :
    Calls Try.prog 9 #[.slice A n c] w fun e w' => e = .returned (.bool true) ∧ Below w.heap.size w w' := by
  have hm := h.most
  have hcap := h.cap
  have HX := Lib.hid hx
  clear hx
  by_cases hz0 : 1048576 < n
  · have hd0 : decide ((1048576 : Int) < (n : Int)) = true := by simp; omega
    clear hz0
    go_enter Try.func9, Try.ntmps9
    go_wp2
    go_ret
    exact ⟨rfl, b0 _⟩
  have hd0 : decide ((1048576 : Int) < (n : Int)) = false := by simp; omega
  go_enter Try.func9, Try.ntmps9
  go_wp2_with fail
  refine (DrawGridInverse_any _ _ _ bs _ h HX.out (by omega)).mono ?_
  rintro e w1 ⟨A1, n1, c1, l, rfl, hr, ⟨G, rfl⟩, hB⟩
  go_wp2_with fail
  refine (GridInverse_any _ _ _ G _ hr).mono ?_
  rintro e w2 ⟨v2, rfl, ho2, hB2⟩
  obtain ⟨A2, c2, rfl⟩ := own_form ho2
  replace hr := hr.after hB2
  replace hB := bT hB hB2
  clear hB2
  have hz := Rd.of_own ho2
  clear ho2
  go_wp2_with fail
  refine (sGridInverse_any _ _ _ G _ hr).mono ?_
  rintro e w3 ⟨v3, rfl, ho3, hB3⟩
  obtain ⟨A3, c3, rfl⟩ := own_form ho3
  replace hr := hr.after hB3
  replace hz := hz.after hB3
  replace hB := bT hB hB3
  clear hB3
  have hy := Rd.of_own ho3
  clear ho3
  cases hok : invB G
  ·
    go_wp2_with fail
    with_reducible refine (sameInts_selfA _ _ _ _ _ _ _ _ hz hy).mono ?_
    rintro e w4 ⟨rfl, hB4⟩
    replace hr := hr.after hB4
    replace hz := hz.after hB4
    replace hy := hy.after hB4
    replace hB := bT hB hB4
    clear hB4
    go_wp2_with fail
    with_reducible refine (sameInts_selfA _ _ _ _ _ _ _ _ hz hy).mono ?_
    rintro e w5 ⟨rfl, hB5⟩
    replace hr := hr.after hB5
    replace hz := hz.after hB5
    replace hy := hy.after hB5
    replace hB := bT hB hB5
    clear hB5
    go_wp2_with fail
    go_ret
    exact ⟨rfl, hB⟩
  · obtain ⟨e1, e2⟩ := inv_back hok
    obtain ⟨X, hX⟩ : ∃ X, invL G = X := ⟨_, rfl⟩
    rw [hX] at hz hy e1 e2 ⊢
    have E1 := Lib.hid e1
    have E2 := Lib.hid e2
    clear e1 e2 hX hok
    go_wp2_with fail
    with_reducible refine (sameInts_selfA _ _ _ _ _ _ _ _ hz hy).mono ?_
    rintro e w4 ⟨rfl, hB4⟩
    replace hr := hr.after hB4
    replace hz := hz.after hB4
    replace hy := hy.after hB4
    replace hB := bT hB hB4
    clear hB4
    go_wp2_with fail
    refine (SkyTransform_any _ _ _ X _ hz).mono ?_
    rintro e w5 ⟨v5, rfl, ho5, hB5⟩
    rw [E1.out]
    rw [E2.out] at ho5
    obtain ⟨A5, c5, rfl⟩ := own_form ho5
    replace hr := hr.after hB5
    replace hz := hz.after hB5
    replace hy := hy.after hB5
    replace hB := bT hB hB5
    clear hB5
    have hx := Rd.of_own ho5
    clear ho5
    go_wp2_with fail
    with_reducible refine (sameGrid_self _ _ _ _ _ _ _ _ hx hr).mono ?_
    rintro e w6 ⟨rfl, hB6⟩
    replace hr := hr.after hB6
    replace hz := hz.after hB6
    replace hy := hy.after hB6
    replace hx := hx.after hB6
    replace hB := bT hB hB6
    clear hB6
    go_wp2_with fail
    refine (SkyValid_any _ _ _ X _ hz).mono ?_
    rintro e w' ⟨rfl, rfl⟩
    rw [E1.out]
    go_wp2_with fail
    go_ret
    exact ⟨rfl, hB⟩
set_option maxRecDepth 100000 in
set_option maxHeartbeats 4000000 in
theorem law_inverseOne (A : Option Addr) (n c : Nat) (bs : List Int) (A' : Option Addr) (n' c' : Nat) (w : World) (h : Rd w w.heap.size 1 A n c (cb bs)) (hx : ∀ x ∈ bs, 0 ≤ x ∧ x ≤ 255) (hn' : n' ≤ 9223372036854775807) :
    Calls Try.prog 7 #[.slice A n c, .slice A' n' c'] w fun e w' => e = .returned (.bool true) ∧ Below w.heap.size w w' := by
  have hm := h.most
  have hcap := h.cap
  have HX := Lib.hid hx
  clear hx
  by_cases hz0 : 1048576 < n
  · have hd0 : decide ((1048576 : Int) < (n : Int)) = true := by simp; omega
    clear hz0
    go_enter Try.func7, Try.ntmps7
    go_wp2
    go_ret
    exact ⟨rfl, b0 _⟩
  have hd0 : decide ((1048576 : Int) < (n : Int)) = false := by simp; omega
  by_cases hz1 : 1048576 < n'
  · have hd1 : decide ((1048576 : Int) < (n' : Int)) = true := by simp; omega
    clear hz0 hz1
    go_enter Try.func7, Try.ntmps7
    go_wp2
    go_ret
    exact ⟨rfl, b0 _⟩
  have hd1 : decide ((1048576 : Int) < (n' : Int)) = false := by simp; omega
  go_enter Try.func7, Try.ntmps7
  go_wp2_with fail
  refine (DrawGridInverse_any _ _ _ bs _ h HX.out (by omega)).mono ?_
  rintro e w1 ⟨A1, n1, c1, l, rfl, hr, ⟨G, rfl⟩, hB⟩
  go_wp2_with fail
  refine (GridInverse_any _ _ _ G _ hr).mono ?_
  rintro e w2 ⟨v2, rfl, ho2, hB2⟩
  obtain ⟨A2, c2, rfl⟩ := own_form ho2
  replace hr := hr.after hB2
  replace hB := bT hB hB2
  clear hB2
  have hz := Rd.of_own ho2
  clear ho2
  go_wp2_with fail
  refine (sGridInverse_any _ _ _ G _ hr).mono ?_
  rintro e w3 ⟨v3, rfl, ho3, hB3⟩
  obtain ⟨A3, c3, rfl⟩ := own_form ho3
  replace hr := hr.after hB3
  replace hz := hz.after hB3
  replace hB := bT hB hB3
  clear hB3
  have hy := Rd.of_own ho3
  clear ho3
  cases hok : invB G
  ·
    go_wp2_with fail
    with_reducible refine (sameInts_selfA _ _ _ _ _ _ _ _ hz hy).mono ?_
    rintro e w4 ⟨rfl, hB4⟩
    replace hr := hr.after hB4
    replace hz := hz.after hB4
    replace hy := hy.after hB4
    replace hB := bT hB hB4
    clear hB4
    go_wp2_with fail
    with_reducible refine (sameInts_selfA _ _ _ _ _ _ _ _ hz hy).mono ?_
    rintro e w5 ⟨rfl, hB5⟩
    replace hr := hr.after hB5
    replace hz := hz.after hB5
    replace hy := hy.after hB5
    replace hB := bT hB hB5
    clear hB5
    go_wp2_with fail
    go_ret
    exact ⟨rfl, hB⟩
  · have hone := fun k hk => @inv_one G hok k hk
    have hgr := ((invB_iff G).1 hok).1
    have hl16 := gridB_len hgr
    have HGB := Lib.hid (gridB_all hgr)
    have HL16 := Lib.hid hl16
    have HONE := Lib.hid hone
    clear hone hok hgr hl16
    go_wp2_with fail
    with_reducible refine (sameInts_selfA _ _ _ _ _ _ _ _ hz hy).mono ?_
    rintro e w4 ⟨rfl, hB4⟩
    replace hr := hr.after hB4
    replace hz := hz.after hB4
    replace hy := hy.after hB4
    replace hB := bT hB hB4
    clear hB4
    have ml : n1 = G.length := by have := hr.len; rw [cp_length] at this; omega
    obtain ⟨i0, hi, hq0, hq1, hq2⟩ := info_parts infoGauss
    obtain ⟨bb, off, eA, hbb, hcells⟩ := hr.at_ (by have := HL16.out; omega)
    subst eA
    have hgc := hr.cap
    have hgm := hr.most
    have hlit := World.ownsRow_lit (base := w4.heap.size) (e := 32) (size := 2) w4 #[] 0 (Nat.le_refl _) (by decide) rfl
    have hmG : n1 ≤ 16 := by have := HL16.out; omega
    have ML := Lib.hid ml
    clear ml
    go_wp2_with (at_builtin; refine wpList_append_own _ rfl _ _ 25 rfl w4.heap.size 32 i0 _ 2 16 Try.underlying25 hi hq0 hq1 hq2 rfl (by decide) _ _ _ rfl hlit ⟨bb, off, none⟩ n1 c1 (cp G) rfl (by rw [cp_length, ML.out]) ?e1 (cp_one G) ?e3 ?e4 ?e5 ?_)
    case e1 =>
      intro j u hj
      have ee : ((⟨bb, off, none⟩ : Addr).add j) = ⟨bb, off + j, none⟩ := by unfold Addr.add; split <;> simp_all
      have := hcells j u hj
      rw [ee, World.cell?_alloc_past _ _ _ (block_lt_of_cell this)]
      exact this
    case e3 => unfold maxLen; omega
    case e4 => omega
    case e5 => simp
    intro v' w9 hown' hgrow _
    obtain ⟨gg, cap, rfl⟩ := own_headA hown' (by have := HL16.out; have := ML.out; omega)
    have hg1 := (hown'.lt gg rfl).1
    have hb9 := own_below (bA (b0 w4) _) hlit hgrow
    have hownG : w9.ownsRow w4.heap.size 32 2 (.slice (some ⟨gg, 0, none⟩) n1 cap) n1 (cp G) := by simpa using hown'
    clear hown' hgrow hlit hcells hr hz hy
    have mp : (0 : Int) < (n1 : Int) := by have := HL16.out; have := ML.out; omega
    obtain ⟨k, hk⟩ : ∃ k : Nat, n' % n1 = k := ⟨_, rfl⟩
    have hk1 : k < n1 := by rw [← hk]; exact Nat.mod_lt _ (by omega)
    have HK := Lib.hid (show ((n' : Int) % (n1 : Int)) = (k : Int) by rw [← hk]; exact (Int.natCast_emod n' n1).symm)
    clear hk
    have kG : k < G.length := by rw [← ML.out]; exact hk1
    have u1 := cp_at G k kG
    rw [Nat.mul_comm 2 k] at u1
    have pb := (gaussB_iff _).1 (List.all_eq_true.1 HGB.out _ (List.getElem_mem kG))
    have HX2 := Lib.hid (cp_setre G k kG)
    have HNo := Lib.hid (HONE.out k kG)
    have eg : G.getD k (0, 0) = G[k] := by simp [kG]
    rw [eg] at HNo
    obtain ⟨p, hp⟩ : ∃ p, G[k] = p := ⟨_, rfl⟩
    rw [hp] at u1 pb HX2 HNo
    obtain ⟨pb1, pb2, _, _⟩ := pb
    have k1 := (hownG.cellAt (k * 2) (by omega)).trans u1.1
    have fr1 := hownG.frozenAt (k * 2)
    have hS := (hownG.stored (k * 2) (.int .i64 (p.1 + 1))).1
    rw [HX2.out] at hS
    have hb10 := bS hb9 (p := ⟨gg, k * 2, none⟩) hg1 (.int .i64 (p.1 + 1))
    clear hp eg hownG hb9
    go_upto_region 10 with fail
    rw [HK.out]
    go_wp2_with fail
    replace hB := bT hB hb10
    clear hb10
    have hgs := Rd.of_own hS
    clear hS
    refine (GridInverse_any _ _ _ _ _ hgs).mono ?_
    rintro e w5 ⟨v5, rfl, ho5, hB5⟩
    rw [HNo.out]
    obtain ⟨A5, c5, rfl⟩ := own_form ho5
    replace hB := bT hB hB5
    clear hB5
    have hG2 := Rd.of_own ho5
    clear ho5
    go_wp2_with fail
    go_ret
    exact ⟨rfl, hB⟩

end Go.Proofs.Ytdcabfobmkdlmaa
