/- The laws FnGroupsOrder, FnGroupsLine. Written by lawsB2.py. -/
import Derived.Test.YtjpklbkeofjppaaLawB2
import Derived.Deep.RegionHeld
import Derived.Deep.AppendLies
import Derived.Test.YtjpklbkeofjppaaRound
namespace Go.Proofs.Ytjpklbkeofjppaa
open Go.RowKit

/-- An append of places to a slice of places that is owned, as one operation of a region. -/
theorem step_append_ants {w : World} {ops : Array Oper} {o : Oper} {a : Act} {K : Act → World → Prop} {Q : Exit → Act → World → Prop} {E : Prop} {s x : Operand} (hgd : o.guard = none)
    (ho : o.op = .call { callee := .builtin .append, args := #[s, x], argTypes := #[25, 25] }) {base n m c b off : Nat} {v : Value} {L M : List (Int × Int)} (hs : a.eval s = v) (hx : a.eval x = .slice (some ⟨b, off, none⟩) m c)
    (hown : w.ownsRow base 38 2 v n (cp L)) (hM : M.length = m) (hcells : ∀ j u, (cp M)[j]? = some u → w.cell? ((⟨b, off, none⟩ : Addr).add j) = some u) (hnm : n + m ≤ 1000) (hbase : base ≤ w.heap.size)
    (h : ∀ v' w', w'.ownsRow base 38 2 v' (n + m) (cp (L ++ M)) → w.grownBy w' v.ownBlock → K (a.put o.dst v') w') : if Region.wanted o (yielded ops a.tmps) = true then Oper.wp Try.prog o a w K Q else E := by
  obtain ⟨i0, hi, hz0, hz1, hz2⟩ := info_parts infoAnt
  rw [if_pos (show Region.wanted o (yielded ops a.tmps) = true by simp [Region.wanted, hgd])]
  exact wp_append_own w s x _ ho base 38 i0 _ 2 16 Try.underlying25 hi hz0 hz1 hz2 rfl (by decide) v n (cp L) hs hown ⟨b, off, none⟩ m c (cp M) hx (by rw [cp_length, hM]) hcells (cp_one _) (by unfold maxLen; omega) (by omega) hbase fun v' w' h2 h3 _ => h v' w' (by rw [cp_append]; exact h2) h3
theorem cp_drop (L : List (Int × Int)) (k : Nat) : (cp L).drop (k * 2) = cp (L.drop k) := by
  have h := congrArg (List.drop (k * 2)) (cp_append (L.take k) (L.drop k))
  rw [List.take_append_drop] at h
  rw [h, List.drop_append]
  by_cases hk : k ≤ L.length
  · have e : (cp (L.take k)).length = k * 2 := by rw [cp_length, List.length_take, Nat.min_eq_left hk]
    rw [e, List.drop_of_length_le (by omega), Nat.sub_self, List.nil_append, List.drop_zero]
  · have e : L.drop k = [] := List.drop_of_length_le (by omega)
    have e2 : (cp (L.take k)).length ≤ k * 2 := by rw [cp_length, List.length_take]; omega
    rw [e, List.drop_of_length_le e2]; simp [cp]
/-- The cells of a slice of pairs from the k-th on. -/
theorem rd_from {w : World} {B n c b off : Nat} {L : List (Int × Int)} (h : Rd w B 2 (some ⟨b, off, none⟩) n c (cp L)) (hn : 0 < n) (k : Nat) : ∀ j u, (cp (L.drop k))[j]? = some u → w.cell? ((⟨b, off + k * 2, none⟩ : Addr).add j) = some u := by
  intro j u hu
  obtain ⟨b', off', e, hb, hc⟩ := h.at_ hn
  injection e with e
  injection e with e1 e2
  subst e1 e2
  have e3 : ((⟨b, off + k * 2, none⟩ : Addr).add j) = ⟨b, off + (k * 2 + j), none⟩ := by unfold Addr.add; split <;> simp_all [Nat.add_assoc]
  rw [e3]
  refine hc _ u ?_
  rw [← cp_drop, List.getElem?_drop] at hu
  exact hu
theorem rd_upto {w : World} {B n c b off : Nat} {L : List (Int × Int)} (h : Rd w B 2 (some ⟨b, off, none⟩) n c (cp L)) (hn : 0 < n) (k : Nat) : ∀ j u, (cp (L.take k))[j]? = some u → w.cell? ((⟨b, off, none⟩ : Addr).add j) = some u := by
  intro j u hu
  have := rd_from h hn 0 j u
  rw [List.drop_zero, Nat.zero_mul, Nat.add_zero] at this
  refine this ?_
  rw [← cp_take, List.getElem?_take] at hu
  split at hu
  · exact hu
  · cases hu
theorem line_take {N : Nat} {s : Int} {k : Nat} (h : k < N) : (Vm.lineL N s).take (k + 1) = (Vm.lineL N s).take k ++ [((k : Int) * s, 3 * (k : Int))] := by
  have hl : k < (Vm.lineL N s).length := by rw [Vm.lineL_len]; exact h
  rw [List.take_succ_eq_append_getElem hl]
  simp [Vm.lineL]
theorem mul7 {x : Int} {k : Nat} (h1 : 1 ≤ x) (h2 : x ≤ 5) (hk : k ≤ 7) : 0 ≤ (k : Int) * x ∧ (k : Int) * x ≤ 35 := by
  have hx : x = 1 ∨ x = 2 ∨ x = 3 ∨ x = 4 ∨ x = 5 := by omega
  rcases hx with rfl | rfl | rfl | rfl | rfl <;> omega
set_option maxRecDepth 100000 in
set_option maxHeartbeats 4000000 in
theorem law_groupsOrder (A : Option Addr) (n c : Nat) (bs : List Int) (A' : Option Addr) (n' c' : Nat) (w : World) (h : Rd w w.heap.size 1 A n c (cb bs)) (hx : ∀ x ∈ bs, 0 ≤ x ∧ x ≤ 255) (hn' : n' ≤ 9223372036854775807) :
    Calls Try.prog 7 #[.slice A n c, .slice A' n' c'] w fun e w' => e = .returned (.bool true) ∧ Below w.heap.size w w' := by
  have hm := h.most
  have hcap := h.cap
  have HX := Lib.hid hx
  clear hx
  by_cases hz0 : 1048576 < n
  · have hd0 : decide ((1048576 : Int) < (n : Int)) = true := by simp; omega
    clear hz0
    go_enter Try.func7, Try.ntmps7
    go_wp2
    go_ret
    exact ⟨rfl, b0 _⟩
  have hd0 : decide ((1048576 : Int) < (n : Int)) = false := by simp; omega
  by_cases hz1 : 1048576 < n'
  · have hd1 : decide ((1048576 : Int) < (n' : Int)) = true := by simp; omega
    clear hz0 hz1
    go_enter Try.func7, Try.ntmps7
    go_wp2
    go_ret
    exact ⟨rfl, b0 _⟩
  have hd1 : decide ((1048576 : Int) < (n' : Int)) = false := by simp; omega
  go_enter Try.func7, Try.ntmps7
  go_wp2_with fail
  refine (DrawRedundantMany_any _ _ _ bs _ h HX.out (by omega)).mono ?_
  rintro e w1 ⟨A1, m1, c1, L, rfl, hr, hB⟩
  have mL : m1 = L.length := by have := hr.len; rw [cp_length] at this; omega
  subst mL
  have hrcap := hr.cap
  have hrmost := hr.most
  go_wp2_with fail
  with_reducible refine (RedundantMany_any _ _ _ L _ hr).mono ?_
  rintro e w2 ⟨rfl, hB2⟩
  replace hr := hr.after hB2
  replace hB := bT hB hB2
  clear hB2
  go_wp2_with fail
  with_reducible refine (sRedundantMany_any _ _ _ L _ hr).mono ?_
  rintro e w3 ⟨rfl, hB3⟩
  replace hr := hr.after hB3
  replace hB := bT hB hB3
  clear hB3
  cases hok : Vm.arrB L
  ·
    have e1 := Vm.redN_no hok
    rw [e1]
    clear hok e1
    go_wp2_with fail
    go_ret
    exact ⟨rfl, hB⟩
  ·
    obtain ⟨⟨N2, N7⟩, -, -⟩ := (Vm.arrB_iff L).1 hok
    have HK := Lib.hid hok
    obtain ⟨o1, o2⟩ := Vm.many_law hok
    have c1b := hr.cap
    have i1 : n' % L.length < L.length := Nat.mod_lt _ (by omega)
    have hlaw := Vm.order_law hok (n' % L.length)
    obtain ⟨k, hk⟩ : ∃ k, n' % L.length = k := ⟨_, rfl⟩
    have hk2 : (n' : Int) % (L.length : Int) = (k : Int) := by rw [← hk]; norm_cast
    have t1 : (n' : Int).tmod (L.length : Int) = (k : Int) := by rw [Int.tmod_eq_emod_of_nonneg (by omega)]; exact hk2
    rw [hk] at i1 hlaw
    have hl1 : (L.drop k).length = L.length - k := List.length_drop
    have hl2 : (L.take k).length = k := by rw [List.length_take]; omega
    obtain ⟨o, ho⟩ : ∃ o, Vm.redN L = o := ⟨_, rfl⟩
    rw [ho] at o1 o2 hlaw ⊢
    obtain ⟨N, hN⟩ : ∃ N, L.length = N := ⟨_, rfl⟩
    have HN := Lib.hid hN
    rw [hN] at hr hrcap c1b i1 t1 hl1 N2 N7 ⊢
    obtain ⟨i0, hi, hz0_, hz1_, hz2_⟩ := info_parts infoAnt
    have ho0 : ¬ o < 0 := by omega
    have hl0 : ((N : Int) == 0) = false := by rw [beq_eq_false_iff_ne]; omega
    have HLAW := Lib.hid hlaw
    have HL1 := Lib.hid hl1
    have HL2 := Lib.hid hl2
    clear ho hN hk hk2 o2 hlaw hl1 hl2 hok
    obtain ⟨b, off, rfl, hb, -⟩ := hr.at_ (by omega)
    have hik : (k : Int) < (N : Int) := by omega
    go_wp2_with fail
    have hE : ∀ ww : World, (ww.alloc (.cells #[] 38)).ownsRow ww.heap.size 38 2 (.slice (some ⟨ww.heap.size, 0, none⟩) 0 0) 0 [] := fun ww => by have := World.ownsRow_lit (base := ww.heap.size) (e := 38) (size := 2) ww #[] 0 (by simp) (by decide) rfl; simpa using this
    have HE := Lib.hid hE
    clear hE
    have hra := hr.after (bA (Below.drew (b0 w3)) (.cells #[] 38))
    have hba := bA (Below.drew (b0 w3)) (.cells #[] 38)
    refine wp_region_held_drew (S := fun _ => True) (by kernel_rfl) trivial (fun hS => ?_)
    refine wpAnyH_take (i := 1) (v := .slice (some ⟨b, off, none⟩) N c1) rfl (by kernel_rfl) (by kernel_rfl) (by kernel_rfl) (fun _ _ _ h => h) (Or.inl ⟨by rfl, fun ww hSw => ?_⟩) hS ?_
    · go_simp
    refine wpAnyH_take (i := 2) (v := .int .i64 k) rfl (by kernel_rfl) (by kernel_rfl) (by kernel_rfl) (fun _ _ _ h => h) (Or.inl ⟨by rfl, fun ww hSw => ?_⟩) hS ?_
    · go_simp
    refine wpAnyH_take (i := 3) (v := .slice (some ⟨b, off + k * 2, none⟩) (N - k) (c1 - k)) rfl (by kernel_rfl) (by kernel_rfl) (by kernel_rfl) (fun _ _ _ h => h) (Or.inl ⟨by rfl, fun ww hSw => ?_⟩) hS ?_
    · go_simp; rw [if_pos (show k ≤ N by omega), if_neg (show ¬ c1 = k by omega)]
    refine wpAnyH_take (i := 5) (v := .slice (some ⟨b, off, none⟩) N c1) rfl (by kernel_rfl) (by kernel_rfl) (by kernel_rfl) (fun _ _ _ h => h) (Or.inl ⟨by rfl, fun ww hSw => ?_⟩) hS ?_
    · go_simp
    refine wpAnyH_take (i := 6) (v := .int .i64 k) rfl (by kernel_rfl) (by kernel_rfl) (by kernel_rfl) (fun _ _ _ h => h) (Or.inl ⟨by rfl, fun ww hSw => ?_⟩) hS ?_
    · go_simp
    refine wpAnyH_take (i := 7) (v := .slice (some ⟨b, off, none⟩) k c1) rfl (by kernel_rfl) (by kernel_rfl) (by kernel_rfl) (fun _ _ _ h => h) (Or.inl ⟨by rfl, fun ww hSw => ?_⟩) hS ?_
    · go_simp; intro hlt9; omega
    refine wpAnyH_take (i := 10) (v := .int .i64 o) rfl (by kernel_rfl) (by kernel_rfl) (by kernel_rfl) (fun _ _ _ h => h) (Or.inl ⟨by rfl, fun ww hSw => ?_⟩) hS ?_
    · go_simp
    refine wpAnyH_ready (rs := [0]) (by kernel_rfl) (by simp) ?_
    refine AllReadyH.cons rfl (fun K hK => ?_) AllReadyH.nil
    go_simp
    refine hK.out _ _ trivial (fun hS => ?_)
    clear hK K
    refine wpAnyH_ready (rs := [4]) (by kernel_rfl) (by simp) ?_
    refine AllReadyH.cons rfl (fun K hK => ?_) AllReadyH.nil
    refine step_append_ants (s := .tmp 38) (x := .tmp 41) (base := w3.heap.size) (n := 0) (m := N - k) (c := c1 - k) (L := []) (M := L.drop k) rfl rfl rfl rfl (HE.out w3.drew) HL1.out (rd_from hra (by omega) k) (by omega) hba.size ?_
    intro v5 w5 hown5 hgrow5
    have hB5 := own_below hba (HE.out w3.drew) hgrow5
    rw [Nat.zero_add, List.nil_append] at hown5
    clear hgrow5
    refine hK.out _ _ trivial (fun hS => ?_)
    clear hK K
    refine wpAnyH_ready (rs := [8]) (by kernel_rfl) (by simp) ?_
    refine AllReadyH.cons rfl (fun K hK => ?_) AllReadyH.nil
    refine step_append_ants (s := .tmp 42) (x := .tmp 45) (base := w3.heap.size) (n := N - k) (m := k) (c := c1) (L := L.drop k) (M := L.take k) rfl rfl rfl rfl hown5 HL2.out (rd_upto (hr.after hB5) (by omega) k) (by omega) hB5.size ?_
    intro v6 w6 hown6 hgrow6
    have hB6 := own_below hB5 hown5 hgrow6
    obtain ⟨A6, c6, rfl⟩ := own_form hown6
    clear hgrow6
    refine hK.out _ _ trivial (fun hS => ?_)
    clear hK K
    refine wpAnyH_ready (rs := [9]) (by kernel_rfl) (by simp) ?_
    refine AllReadyH.cons rfl (fun K hK => ?_) AllReadyH.nil
    go_simp
    refine (RedundantMany_any _ _ _ _ _ (Rd.of_own hown6)).mono ?_
    rintro e w7 ⟨rfl, hB7⟩
    rw [HLAW.out]
    replace hB := bT hB (bT hB6 hB7)
    clear hB7 hB6 hown6 hown5 hB5
    refine hK.out _ _ trivial (fun hS => ?_)
    clear hK K
    refine wpAnyH_take (i := 11) (v := .bool true) rfl (by kernel_rfl) (by kernel_rfl) (by kernel_rfl) (fun _ _ _ h => h) (Or.inl ⟨by rfl, fun ww hSw => ?_⟩) hS ?_
    · go_simp
    refine wpAnyH_take (i := 12) (v := .bool true) rfl (by kernel_rfl) (by kernel_rfl) (by kernel_rfl) (fun _ _ _ h => h) (Or.inl ⟨by rfl, fun ww hSw => ?_⟩) hS ?_
    · go_simp
    refine ⟨by kernel_rfl, ?_⟩
    go_wp2_with fail
    go_ret
    exact ⟨rfl, hB⟩
set_option maxRecDepth 100000 in
set_option maxHeartbeats 4000000 in
theorem law_groupsLine (A : Option Addr) (n c : Nat) (bs : List Int) (A' : Option Addr) (n' c' : Nat) (w : World) (h : Rd w w.heap.size 1 A n c (cb bs)) (hx : ∀ x ∈ bs, 0 ≤ x ∧ x ≤ 255) (hn' : n' ≤ 9223372036854775807) :
    Calls Try.prog 6 #[.slice A n c, .slice A' n' c'] w fun e w' => e = .returned (.bool true) ∧ Below w.heap.size w w' := by
  have hm := h.most
  have hcap := h.cap
  have HX := Lib.hid hx
  clear hx
  by_cases hz0 : 1048576 < n
  · have hd0 : decide ((1048576 : Int) < (n : Int)) = true := by simp; omega
    clear hz0
    go_enter Try.func6, Try.ntmps6
    go_wp2
    go_ret
    exact ⟨rfl, b0 _⟩
  have hd0 : decide ((1048576 : Int) < (n : Int)) = false := by simp; omega
  by_cases hz1 : 1048576 < n'
  · have hd1 : decide ((1048576 : Int) < (n' : Int)) = true := by simp; omega
    clear hz0 hz1
    go_enter Try.func6, Try.ntmps6
    go_wp2
    go_ret
    exact ⟨rfl, b0 _⟩
  have hd1 : decide ((1048576 : Int) < (n' : Int)) = false := by simp; omega
  go_enter Try.func6, Try.ntmps6
  go_wp2_with fail
  refine (DrawRedundantMany_any _ _ _ bs _ h HX.out (by omega)).mono ?_
  rintro e w1 ⟨A1, m1, c1, L, rfl, hr, hB⟩
  have mL : m1 = L.length := by have := hr.len; rw [cp_length] at this; omega
  subst mL
  have hrcap := hr.cap
  have hrmost := hr.most
  go_wp2_with fail
  with_reducible refine (RedundantMany_any _ _ _ L _ hr).mono ?_
  rintro e w2 ⟨rfl, hB2⟩
  replace hr := hr.after hB2
  replace hB := bT hB hB2
  clear hB2
  go_wp2_with fail
  with_reducible refine (sRedundantMany_any _ _ _ L _ hr).mono ?_
  rintro e w3 ⟨rfl, hB3⟩
  replace hr := hr.after hB3
  replace hB := bT hB hB3
  clear hB3
  cases hok : Vm.arrB L
  ·
    have e1 := Vm.redN_no hok
    rw [e1]
    clear hok e1
    go_wp2_with fail
    go_ret
    exact ⟨rfl, hB⟩
  ·
    obtain ⟨⟨N2, N7⟩, -, -⟩ := (Vm.arrB_iff L).1 hok
    have HK := Lib.hid hok
    obtain ⟨o1, o2⟩ := Vm.many_law hok
    have i1 : n' % 5 < 5 := Nat.mod_lt _ (by omega)
    obtain ⟨s, hs⟩ : ∃ s : Int, ((1 + n' % 5 : Nat) : Int) = s := ⟨_, rfl⟩
    have s1 : 1 ≤ s ∧ s ≤ 5 := by omega
    have hs2 : 1 + (n' : Int) % 5 = s := by rw [← hs]; norm_cast
    have t1 : (n' : Int).tmod 5 = s - 1 := by rw [Int.tmod_eq_emod_of_nonneg (by omega)]; omega
    obtain ⟨s1, s5⟩ := s1
    have hlaw := Vm.line_law N2 N7 s1 s5
    have l1 := (Vm.less_law hok).1
    obtain ⟨o, ho⟩ : ∃ o, Vm.redN L = o := ⟨_, rfl⟩
    rw [ho] at o1 o2 l1 ⊢
    obtain ⟨N, hN⟩ : ∃ N, L.length = N := ⟨_, rfl⟩
    have HN := Lib.hid hN
    rw [hN] at hr hrcap l1 hlaw N2 N7 ⊢
    obtain ⟨i0, hi, hz0_, hz1_, hz2_⟩ := info_parts infoAnt
    have HLAW := Lib.hid hlaw
    have ho0 : ¬ o < 0 := by omega
    clear ho hN hs hs2 o2 hlaw hok i1
    go_wp2_with fail
    go_loopw [8, 9] (fun v i wr => ∃ k : Nat, k ≤ N ∧ i = .int .i64 k ∧ wr.ownsRow w3.heap.size 38 2 v k (cp ((Vm.lineL N s).take k)) ∧ Below w3.heap.size w3 wr) (fun _ i _ => N - (intOf i).toNat)
    case atStart => exact ⟨0, Nat.zero_le _, rfl, by have := World.ownsRow_lit (base := w3.heap.size) (e := 38) (size := 2) w3 #[] 0 (by simp) (by decide) rfl; simpa [cp] using this, bA (b0 _) _⟩
    case round =>
      obtain ⟨k, hk, rfl, hown, hW⟩ := hrel
      by_cases hlt : k < N
      ·
        have HT := Lib.hid (line_take (s := s) hlt)
        obtain ⟨p1, p2⟩ := mul7 (x := s) (k := k) s1 s5 (by omega)
        obtain ⟨x, hx⟩ : ∃ x, (k : Int) * s = x := ⟨_, rfl⟩
        rw [hx] at p1 p2 HT
        have hown1 := hown.alloc (.cells #[.int .i64 x, .int .i64 (3 * k)] 38)
        have hB2 := bA hW (.cells #[.int .i64 x, .int .i64 (3 * k)] 38)
        have hsz := hW.size
        have hs9 : 1 + (s - 1) = s := by omega
        clear hown
        go_wp2_with (at_builtin; refine wpList_append_own _ rfl _ _ 25 rfl w3.heap.size 38 i0 _ 2 16 Try.underlying25 hi hz0_ hz1_ hz2_ rfl (by decide) _ _ _ rfl hown1 ⟨wr.heap.size, 0, none⟩ 1 1 [.int .i64 x, .int .i64 (3 * k)] rfl rfl (new_cells _ _ _) ?c2 ?c3 ?c4 ?c5 ?_)
        case c2 => intro u hu; simp at hu; rcases hu with rfl | rfl <;> rfl
        case c3 => unfold maxLen; omega
        case c4 => omega
        case c5 => simp; omega
        intro v' w9 hown' hgrow _
        have hB3 := own_below hB2 hown1 hgrow
        rw [← cp_snoc, ← HT.out] at hown'
        clear hown1 hgrow hB2
        go_wp2_with fail
        go_roundw
        case rel => exact ⟨k + 1, by omega, by go_num, hown', hB3⟩
        case measure => simp [intOf]; omega
      ·
        obtain rfl : k = N := by omega
        rw [List.take_of_length_le (by rw [Vm.lineL_len]; omega)] at hown
        obtain ⟨A9, c9, rfl⟩ := own_form hown
        have hl := Rd.of_own hown
        replace hr := hr.after hW
        replace hB := bT hB hW
        clear hown hW
        go_wp2_with fail
        with_reducible refine (RedundantMany_any _ _ _ _ _ hl).mono ?_
        rintro e w4 ⟨rfl, hB4⟩
        replace hr := hr.after hB4
        replace hl := hl.after hB4
        replace hB := bT hB hB4
        clear hB4
        rw [HLAW.out]
        go_wp2_with fail
        with_reducible refine (RedundantMany_any _ _ _ _ _ hl).mono ?_
        rintro e w5 ⟨rfl, hB5⟩
        replace hr := hr.after hB5
        replace hl := hl.after hB5
        replace hB := bT hB hB5
        clear hB5
        rw [HLAW.out]
        go_wp2_with fail
        go_ret
        exact ⟨rfl, hB⟩

end Go.Proofs.Ytjpklbkeofjppaa
