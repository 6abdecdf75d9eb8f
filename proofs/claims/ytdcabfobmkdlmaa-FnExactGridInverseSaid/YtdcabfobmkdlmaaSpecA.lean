/- Contracts: the reference's transform of a sky. -/
import Derived.Test.YtdcabfobmkdlmaaSkyV
import Derived.Test.YtdcabfobmkdlmaaDrawA
namespace Go.Proofs.Ytdcabfobmkdlmaa
open Go.RowKit

theorem term_eq (n : Int) (u : Int × Int) : (n * u.1, n * u.2) = Sky.gmul (n, 0) u := by simp [Sky.gmul]
theorem ex_uv (v u k : Nat) (hu : u < 4) : ((u : Int) * ((k : Int) % 4) + (v : Int) * ((k : Int) / 4)) = Sky.ex (4 * v + u) k := by
  rw [← ex_eq]
  have h1 : ((4 * v + u : Nat) : Int) % 4 = u := by omega
  have h2 : ((4 * v + u : Nat) : Int) / 4 = v := by omega
  rw [h1, h2]
def trN (L : List Int) (m : Nat) : List (Int × Int) := (List.range m).map (Sky.T (Sky.real (cells16 L)) 1)
theorem trN_succ (L : List Int) (m : Nat) : cp (trN L (m + 1)) = cp (trN L m) ++ [.int .i64 (Sky.T (Sky.real (cells16 L)) 1 m).1, .int .i64 (Sky.T (Sky.real (cells16 L)) 1 m).2] := by
  rw [trN, List.range_succ, List.map_append, cp_append]; rfl
theorem sum_bd {L : List Int} (h : skyB L = true) (k i : Nat) (hk : k ≤ 16) : -1600000 ≤ (Sky.Tn k (Sky.real (cells16 L)) 1 i).1 ∧ (Sky.Tn k (Sky.real (cells16 L)) 1 i).1 ≤ 1600000 ∧ -1600000 ≤ (Sky.Tn k (Sky.real (cells16 L)) 1 i).2 ∧ (Sky.Tn k (Sky.real (cells16 L)) 1 i).2 ≤ 1600000 := by
  have := Sky.Tn_bound k (Sky.real (cells16 L)) 1 i 100000 (fun j hj => by
    have hjl : j < L.length := by rw [skyB_len h]; omega
    have := (inR_iff L[j] 100000).1 (List.all_eq_true.1 (skyB_all h) _ (List.getElem_mem hjl))
    simp [cells16, Sky.real, hjl]
    omega)
  omega
def spI (L : List Int) (i S : Nat) (W0 : World) (v : Value) (wr : World) : Prop :=
  ∃ k : Nat, k ≤ 16 ∧ v = .int .i64 k ∧ wr.heap[S]? = some (.cells #[.int .i64 (Sky.Tn k (Sky.real (cells16 L)) 1 i).1, .int .i64 (Sky.Tn k (Sky.real (cells16 L)) 1 i).2] 32 (0, 0)) ∧ W0.grownBy wr (some S)
def spO (L : List Int) (w : World) (vo : Value) (m : Nat) (wr : World) : Prop :=
  wr.ownsRow w.heap.size 32 2 vo m (cp (trN L m)) ∧ Below w.heap.size w wr
theorem below_grown_new {a W W' : World} {S : Nat} (h : Below a.heap.size a W) (hg : W.grownBy W' (some S)) (hS : a.heap.size ≤ S) : Below a.heap.size a W' := h.grown hg h.size (fun k hk => by injection hk with hk; omega)

theorem two_set {w : World} {g : Nat} {a b a' b' : Value} {T : TypeId} (h : w.heap[g]? = some (.cells #[a, b] T (0, 0))) : ((w.setCell ⟨g, 0, none⟩ a').setCell ⟨g, 1, none⟩ b').heap[g]? = some (.cells #[a', b'] T (0, 0)) :=
  heap_setCell_same _ g 1 _ T b' (heap_setCell_same w g 0 _ T a' h)
theorem gSetRow (w : World) (g i : Nat) (u : Value) : w.grownBy (w.setCell ⟨g, i, none⟩ u) (some g) := ⟨rfl, rfl, rfl, by simp, fun k _ hk => heap_setCell_other w ⟨g, i, none⟩ k u (fun e => hk (by simp [e]))⟩
theorem own_past {w w' wo : World} {base : Nat} {e : TypeId} {size n : Nat} {v : Value} {xs : List Value} (h : w.ownsRow base e size v n xs) (h0 : wo.ownsRow base e size v n xs) (hg : w.grownBy w' (some wo.heap.size)) : w'.ownsRow base e size v n xs :=
  h.kept hg (by
    rcases hv : v.ownBlock with _ | k
    · exact .inl rfl
    · refine .inr (fun e => ?_)
      injection e with e
      have := (h0.lt k hv).2
      omega)

set_option maxHeartbeats 1600000 in
theorem sSkyTransform_any (A : Option Addr) (n c : Nat) (L : List Int) (w : World) (h : Rd w w.heap.size 1 A n c (ci L)) :
    Calls Try.prog 12 #[.slice A n c] w fun e w' => ∃ v, e = .returned (.tuple #[v, .bool (skyB L)]) ∧ w'.ownsRow w.heap.size 32 2 v (skyTr L).length (cp (skyTr L)) ∧ Below w.heap.size w w' := by
  have hn := h.len
  rw [ci_length, Nat.mul_one] at hn
  have hm := h.most
  have hcap := h.cap
  subst hn
  obtain ⟨i0, hi, hz0, hz1, hz2⟩ := info_parts infoGauss
  have hO : spO L w (.slice (some ⟨w.heap.size, 0, none⟩) 0 0) 0 (w.alloc (.cells #[] 32)) := ⟨World.ownsRow_lit w #[] 0 (Nat.le_refl _) (by decide) rfl, bA (b0 w) _⟩
  cases hs : skyB L
  · have H := Lib.hid (show skyTr L = [] by simp [skyTr, hs])
    go_enter Try.func12, Try.ntmps12
    go_wp2_with (go_at_call 39; refine (sSkyValid_any _ _ _ L _ (h.after (bA (b0 w) _))).mono ?_; rintro e w' ⟨rfl, rfl⟩)
    go_ret2
    exact ⟨_, rfl, by rw [H.out]; exact hO.1, hO.2⟩
  · have H := Lib.hid (show trN L 16 = skyTr L by simp [skyTr, hs, trN])
    have HS := Lib.hid hs
    have HL := Lib.hid (skyB_len hs)
    go_enter Try.func12, Try.ntmps12
    go_wp2_with (go_at_call 39; refine (sSkyValid_any _ _ _ L _ (h.after (bA (b0 w) _))).mono ?_; rintro e w' ⟨rfl, rfl⟩)
    obtain ⟨W, hW⟩ : ∃ W, w.alloc (.cells #[] 32) = W := ⟨_, rfl⟩
    rw [hW] at hO ⊢
    clear hW
    go_loopw [4, 5] (fun vo vv wr => ∃ v : Nat, v ≤ 4 ∧ vv = .int .i64 v ∧ spO L w vo (4 * v) wr) (fun _ vv _ => 4 - (intOf vv).toNat)
    case atStart => exact ⟨0, Nat.zero_le _, rfl, hO⟩
    case round =>
      clear hO
      obtain ⟨v, hv, rfl, hO⟩ := hrel
      by_cases hv4 : v < 4
      · have hv1 : decide ((v : Int) < 4) = true := by simp; omega
        go_wp2
        go_loopw [4, 6] (fun vo vu wr => ∃ u : Nat, u ≤ 4 ∧ vu = .int .i64 u ∧ spO L w vo (4 * v + u) wr) (fun _ vu _ => 4 - (intOf vu).toNat)
        case atStart => exact ⟨0, Nat.zero_le _, rfl, hO⟩
        case round =>
          clear hO
          obtain ⟨u, hu, rfl, hO⟩ := hrel
          by_cases hu4 : u < 4
          · have hu1 : decide ((u : Int) < 4) = true := by simp; omega
            obtain ⟨wo, rfl⟩ : ∃ wo : World, wo = wr := ⟨_, rfl⟩
            go_wp2
            obtain ⟨W0, hW0⟩ : ∃ W0, wo.alloc (.cells #[.int .i64 0, .int .i64 0] 32) = W0 := ⟨_, rfl⟩
            have hst : spI L (4 * v + u) wo.heap.size W0 (.int .i64 0) W0 := ⟨0, by omega, rfl, by rw [← hW0]; exact heap_alloc_new _ _, World.grownBy.refl _ _⟩
            have hA0 : W0.ownsRow w.heap.size 32 2 u4 (4 * v + u) (cp (trN L (4 * v + u))) := by rw [← hW0]; exact hO.1.alloc _
            have hB0 : Below w.heap.size w W0 := by rw [← hW0]; exact bA hO.2 _
            have hS0 : w.heap.size ≤ wo.heap.size := hO.2.size
            have hown0 := hO.1
            rw [hW0]
            clear hW0 hO
            go_loopw [8] (fun vk wr => spI L (4 * v + u) wo.heap.size W0 vk wr) (fun vk _ => 16 - (intOf vk).toNat)
            case atStart => exact hst
            case round =>
              clear hst
              obtain ⟨k, hk, rfl, hblk, hg⟩ := hrel
              have hBr := below_grown_new hB0 hg hS0
              by_cases hk16 : k < 16
              · have hkl : k < L.length := by rw [HL.out]; exact hk16
                obtain ⟨b, off, rfl, hb, hc⟩ := (h.below hBr).int_at hkl
                obtain ⟨hx1, hx2⟩ := (inR_iff L[k] 100000).1 (List.all_eq_true.1 (skyB_all HS.out) _ (List.getElem_mem hkl))
                obtain ⟨x, hx⟩ : ∃ x, L[k] = x := ⟨_, rfl⟩
                obtain ⟨t, ht⟩ : ∃ t, Sky.Tn k (Sky.real (cells16 L)) 1 (4 * v + u) = t := ⟨_, rfl⟩
                obtain ⟨y, hy⟩ : ∃ y, (x * (Sky.unit (Sky.ex (4 * v + u) k)).1, x * (Sky.unit (Sky.ex (4 * v + u) k)).2) = y := ⟨_, rfl⟩
                obtain ⟨t1, t2, t3, t4⟩ := sum_bd HS.out k (4 * v + u) (by omega)
                have hyb := unit_mul_bd x (Sky.ex (4 * v + u) k) 100000 (by omega) (by omega)
                rw [hx] at hx1 hx2 hc
                rw [ht] at t1 t2 t3 t4 hblk
                have hyb1 : -100000 ≤ y.1 ∧ y.1 ≤ 100000 ∧ -100000 ≤ y.2 ∧ y.2 ≤ 100000 := by rw [← hy]; exact hyb
                obtain ⟨y1, y2, y3, y4⟩ := hyb1
                have HN := Lib.hid (show Sky.Tn (k + 1) (Sky.real (cells16 L)) 1 (4 * v + u) = (t.1 + y.1, t.2 + y.2) by
                  rw [Sky.Tn_succ, ht, Int.one_mul, ← hy, term_eq]
                  have : Sky.real (cells16 L) k = (x, 0) := by simp [Sky.real, cells16, hkl, hx]
                  rw [this]; rfl)
                have HY := Lib.hid hy
                have p1 := mul_bd (a := (u : Int)) (b := (k : Int) % 4) (A := 3) (B := 3) (by omega) (by omega) (by omega) (by omega)
                have p2 := mul_bd (a := (v : Int)) (b := (k : Int) / 4) (A := 3) (B := 3) (by omega) (by omega) (by omega) (by omega)
                obtain ⟨p11, p12⟩ := p1
                obtain ⟨p21, p22⟩ := p2
                have HE := Lib.hid (ex_uv v u k hu4)
                clear hx ht hy hyb
                go_wp2_with (go_at_call 40; refine (l21Cells_any _).mono ?_; rintro e w' ⟨rfl, rfl⟩)
                rw [HE.out]
                refine (l21Term_any x (Sky.ex (4 * v + u) k) _ (by omega) (by omega)).mono ?_
                rintro e w1 ⟨rfl, hb1⟩
                rw [HY.out]
                unfold gv
                have hblk1 := (hb1.block _ (lt_of_block hblk)).trans hblk
                have hg1 := gTrans hg (gBelow hb1 (some wo.heap.size))
                have hlt1 := lt_of_block hblk1
                have hc0 : w1.cell? ⟨wo.heap.size, 0, none⟩ = some (.int .i64 t.1) := by rw [cell_of_row _ _ 0 _ _ _ hblk1]; rfl
                have hc1 : w1.cell? ⟨wo.heap.size, 1, none⟩ = some (.int .i64 t.2) := by rw [cell_of_row _ _ 1 _ _ _ hblk1]; rfl
                have hf0 : w1.frozen? ⟨wo.heap.size, 0, none⟩ = false := frozen_of_row _ _ 0 _ _ hblk1
                have hf1 : w1.frozen? ⟨wo.heap.size, 1, none⟩ = false := frozen_of_row _ _ 1 _ _ hblk1
                go_wp2_with fail
                go_roundw
                case rel =>
                  refine ⟨k + 1, by omega, by go_num, ?_, gAlloc (gTrans (gTrans hg1 (gSetRow _ _ 0 _)) (gSetRow _ _ 1 _)) _⟩
                  rw [HN.out, Below.heap_alloc _ _ _ (by simp; omega)]
                  exact two_set hblk1
                case measure => simp [intOf]; omega
              · have he : k = 16 := by omega
                subst he
                have hown1 := own_past hA0 hown0 hg
                have hlt1 := lt_of_block hblk
                have hc0 : wr.cell? ⟨wo.heap.size, 0, none⟩ = some (.int .i64 (Sky.T (Sky.real (cells16 L)) 1 (4 * v + u)).1) := by rw [cell_of_row _ _ 0 _ _ _ hblk]; rfl
                have hc1 : wr.cell? ⟨wo.heap.size, 1, none⟩ = some (.int .i64 (Sky.T (Sky.real (cells16 L)) 1 (4 * v + u)).2) := by rw [cell_of_row _ _ 1 _ _ _ hblk]; rfl
                obtain ⟨t, ht⟩ : ∃ t, Sky.T (Sky.real (cells16 L)) 1 (4 * v + u) = t := ⟨_, rfl⟩
                have HN := Lib.hid (trN_succ L (4 * v + u))
                rw [ht] at hc0 hc1
                have HT := Lib.hid ht
                clear ht hblk
                go_wp2_with (first
                  | (go_at_call 40; refine (l21Cells_any _).mono ?_; rintro e w' ⟨rfl, rfl⟩)
                  | (at_builtin; refine wpList_append_own _ rfl _ _ 25 rfl w.heap.size 32 i0 _ 2 16 Try.underlying25 hi hz0 hz1 hz2 rfl (by decide) _ _ _ rfl (hown1.alloc _) ⟨wr.heap.size, 0, none⟩ 1 1 [.int .i64 t.1, .int .i64 t.2] rfl rfl (new_cells _ _ _) ?c2 ?c3 ?c4 ?c5 ?_))
                case c2 => intro u hu; simp at hu; rcases hu with rfl | rfl <;> rfl
                case c3 => unfold maxLen; omega
                case c4 => omega
                case c5 => have := hBr.size; simp; omega
                intro v' w1 hown' hgrow _
                have hB' := own_below (bA hBr _) (hown1.alloc _) hgrow
                go_wp2
                go_roundw
                case rel => exact ⟨u + 1, by omega, by go_num, by rw [← Nat.add_assoc, HN.out, HT.out]; exact hown', hB'⟩
                case measure => simp [intOf]; omega
          · have he : u = 4 := by omega
            subst he
            go_wp2
            go_roundw
            case rel => exact ⟨v + 1, by omega, by go_num, hO⟩
            case measure => simp [intOf]; omega
      · have he : v = 4 := by omega
        subst he
        go_wp2
        go_ret2
        refine ⟨_, rfl, ?_, hO.2⟩
        rw [← H.out]
        exact own_len hO.1 (by simp [trN])

end Go.Proofs.Ytdcabfobmkdlmaa
