/- The program's ampsFrom. Written by sampgen.py. -/
import Derived.Test.YtmoeofclpnblmaaGainV
import Derived.Test.YtmoeofclpnblmaaBaseV
import Derived.Test.YtmoeofclpnblmaaAmpsM
import Derived.Test.YtmoeofclpnblmaaIntRow
import Derived.Test.YtmoeofclpnblmaaDrawC
import Derived.BigQuiet
import Derived.Maps.AppendAt
import Derived.Laws.EntriesVeiled
import Derived.Deep.RegionHeld
import Derived.Deep.AppendLies
namespace Go.Proofs.Ytmoeofclpnblmaa
open Go.RowKit Go.Shelf

attribute [local go_sem] Oper.semAt_some

/-- What lies in memory while the amplitudes are found. -/
structure Sw (w wr : World) (VA VB : Value) (N g cap : Nat) (Q : List Int) : Prop where
  x0 : Boxed wr w.heap.size 3 (.int .i64 N)
  x1 : Boxed wr (w.heap.size + 1) 23 VA
  x2 : Boxed wr (w.heap.size + 1 + 1) 23 VB
  x3 : Boxed wr (w.heap.size + 1 + 1 + 1) 27 (.slice none 0 0)
  x4 : Boxed wr (w.heap.size + 1 + 1 + 1 + 1) 4 (.bool false)
  x6 : Boxed wr (w.heap.size + 1 + 1 + 1 + 1 + 1 + 1) 27 (.slice (some ⟨g, 0, none⟩) Q.length cap)
  ne : g ≠ w.heap.size + 1 + 1 + 1 + 1 + 1 + 1
  own : wr.ownsRow (w.heap.size + 1 + 1 + 1 + 1 + 1) 3 1 (.slice (some ⟨g, 0, none⟩) Q.length cap) Q.length (ci Q)
  below : Below w.heap.size w wr
theorem Sw.kept {w wr W : World} {VA VB : Value} {N g cap : Nat} {Q : List Int} (h : Sw w wr VA VB N g cap Q) (hb : Below wr.heap.size wr W) : Sw w W VA VB N g cap Q :=
  ⟨boxed_of_below h.x0 hb, boxed_of_below h.x1 hb, boxed_of_below h.x2 hb, boxed_of_below h.x3 hb, boxed_of_below h.x4 hb, boxed_of_below h.x6 hb, h.ne, own_after h.own hb, bT h.below hb⟩
theorem Sw.step {w wr w5 : World} {VA VB : Value} {N g cap g' cap' : Nat} {Q : List Int} {z : Int} (h : Sw w wr VA VB N g cap Q)
    (hown : w5.ownsRow (w.heap.size + 1 + 1 + 1 + 1 + 1) 3 1 (.slice (some ⟨g', 0, none⟩) (Q.length + 1) cap') (Q.length + 1) (ci Q ++ [.int .i64 z]))
    (hgrow : (wr.drew.alloc (.cells #[.int .i64 z] 3)).grownBy w5 (Value.slice (some ⟨g, 0, none⟩) Q.length cap).ownBlock) (hg : (Value.slice (some ⟨g, 0, none⟩) Q.length cap).ownBlock = some g' ∨ g' = wr.heap.size + 1) :
    Boxed w5 (w.heap.size + 1 + 1 + 1 + 1 + 1 + 1) 27 (.slice (some ⟨g, 0, none⟩) Q.length cap) ∧
    Sw w (w5.setCell ⟨w.heap.size + 1 + 1 + 1 + 1 + 1 + 1, 0, none⟩ (.slice (some ⟨g', 0, none⟩) (Q.length + 1) cap')) VA VB N g' cap' (Q ++ [z]) := by
  have hD : Below wr.heap.size wr (wr.drew.alloc (.cells #[.int .i64 z] 3)) := bA (Below.drew (b0 wr)) _
  have k := h.kept hD
  have hgg : w.heap.size + 1 + 1 + 1 + 1 + 1 ≤ g := (h.own.lt g rfl).1
  have hne := h.ne
  have h6 := h.x6.lt
  have hne' : g' ≠ w.heap.size + 1 + 1 + 1 + 1 + 1 + 1 := by
    rcases hg with e | e
    · have : g = g' := by simpa [Value.ownBlock] using e
      omega
    · omega
  have e6 := k.x6.kept hgrow (fun e => by simp [Value.ownBlock] at e; omega)
  have hl : (Q ++ [z]).length = Q.length + 1 := by simp
  refine ⟨e6, (k.x0.kept hgrow (fun e => by simp [Value.ownBlock] at e; omega)).other (by omega) _, (k.x1.kept hgrow (fun e => by simp [Value.ownBlock] at e; omega)).other (by omega) _, (k.x2.kept hgrow (fun e => by simp [Value.ownBlock] at e; omega)).other (by omega) _, (k.x3.kept hgrow (fun e => by simp [Value.ownBlock] at e; omega)).other (by omega) _, (k.x4.kept hgrow (fun e => by simp [Value.ownBlock] at e; omega)).other (by omega) _, by rw [hl]; exact Boxed.set _ e6, hne', ?_, ?_⟩
  · rw [hl, ci_append]
    exact hown.kept (grownBy_setCell' w5 _ _) (.inr (fun e => by simp [Value.ownBlock] at e; omega))
  · exact bS (below_of_g k.below hgrow (by simp [Value.ownBlock]; omega)) (p := ⟨w.heap.size + 1 + 1 + 1 + 1 + 1 + 1, 0, none⟩) (by show w.heap.size ≤ w.heap.size + 1 + 1 + 1 + 1 + 1 + 1; omega) _
theorem boxed_putS {W : World} {B D : Nat} {t : TypeId} {v : Value} {o o' : Obj} (h : Boxed W B t v) (hD : W.heap[D]? = some o) (ho : o.isCells = false) : Boxed (W.putObj D o') B t v :=
  boxed_own B t (fun _ : Unit => v) () W _ _ h (grownBy_putObj' W D o') (fun r e => by cases e; exact ⟨_, hD, ho⟩)
theorem wpIn_act {F : Fence} {n : Nat} {P : Program} {c : Code} {Q : Exit → Act → World → Prop} {a a' : Act} {w : World} (h : a = a') (hw : c.wpIn F n P Q a' w) : c.wpIn F n P Q a w := h ▸ hw
def SampPost (N : Nat) (G : List (Int × Int)) (f : Int) (w : World) (e : Ending) (w' : World) : Prop :=
  (f = Vm.ga G 0 ∧ ∃ v, e = .returned (.tuple #[v, .bool true]) ∧ w'.ownsRow w.heap.size 3 1 v N (ci ((List.range N).map fun i : Nat => Vm.ga G i)) ∧ Below w.heap.size w w') ∨
  (f ≠ Vm.ga G 0 ∧ e = .returned (.tuple #[.slice none 0 0, .bool false]) ∧ Below w.heap.size w w')
/-- Whoever shows this shows that there is no panic. -/
def noPanic (Q : Exit → Act → World → Prop) : Exit → Act → World → Prop := fun e a w => (∀ c, e ≠ .panic c) ∧ Q e a w
theorem wp_noPanic {c : Code} {Q : Exit → Act → World → Prop} {a : Act} {w : World} (h : c.wp Try.prog (noPanic Q) a w) : c.wp Try.prog Q a w := Code.wp_mono (fun _ _ _ h => h.2) h
def ampRel (w : World) (VA VB : Value) (N : Nat) (G : List (Int × Int)) (f : Int) (i : Value) (wr : World) : Prop :=
  ∃ (Q : List Int) (g cap : Nat), 1 ≤ Q.length ∧ Q.length ≤ N ∧ i = .int .i64 Q.length ∧ Hid (Vm.AmS G f Q) ∧ Sw w wr VA VB N g cap Q
set_option maxRecDepth 100000 in
set_option maxHeartbeats 8000000 in
theorem ampsFrom_ok (A A' : Option Addr) (m c m' c' N : Nat) (L G : List (Int × Int)) (f : Int) (w : World) (h : Rd w w.heap.size 2 A m c (cp (Vm.gapL N L G))) (h' : Rd w w.heap.size 2 A' m' c' (cp L)) (hO : Vm.OkG N L G) (h3 : 3 ≤ N) (f1 : 1 ≤ f) (f2 : f ≤ 99) :
    Calls Try.prog 78 #[.int .i64 N, .slice A m c, .slice A' m' c', .int .i64 f] w (SampPost N G f w) := by
  have h7 := hO.ok.hi
  have HO := Lib.hid hO
  have ml : m = (Vm.gapL N L G).length := by have := h.len; rw [cp_length] at this; omega
  have ml' : m' = L.length := by have := h'.len; rw [cp_length] at this; omega
  have hl := hO.ok.len
  have hxl := hO.out.len
  have hmany := Vm.many_le N (by omega)
  have hc1 := h.cap
  have hm1 := h.most
  have hc2 := h'.cap
  have hm2 := h'.most
  rw [hxl] at ml
  rw [hl] at ml'
  clear hO
  obtain ⟨M, hM⟩ : ∃ M, N * (N - 1) / 2 = M := ⟨_, rfl⟩
  have HM := Lib.hid hM
  rw [hM] at ml ml' hl hxl hmany
  subst ml
  obtain rfl : m = m' := by omega
  have HXL := Lib.hid hxl
  have HLL := Lib.hid hl
  have HG0 := Lib.hid (HO.out.ga_rng (i := 0) (by omega))
  clear hM hl hxl ml'
  refine callsIn_wide.1 (callsIn_of_wp_marks (n := 6) Try.func78 rfl trivial ?_ rfl)
  simp only [Try.ntmps78, List.size_toArray, List.length_cons, List.length_nil, Nat.reduceAdd, Nat.reduceSub, Array.replicate_succ, Array.replicate_zero, List.push_toArray, List.append_toArray, List.nil_append, List.cons_append]
  refine wpIn_wide.2 ?_
  go_wp2_with fail
  obtain ⟨i0, hi, hz0, hz1, hz2⟩ := info_parts infoInt
  obtain ⟨W1, hW1⟩ : ∃ W1, (((((((w.alloc (.cells #[.int .i64 N] 3)).alloc (.cells #[.slice A m c] 23)).alloc (.cells #[.slice A' m c'] 23)).alloc (.cells #[.slice none 0 0] 27)).alloc (.cells #[.bool false] 4)).alloc (.cells #[.int .i64 f] 3)).alloc (.cells #[.slice (some ⟨w.heap.size + 1 + 1 + 1 + 1 + 1, 0, none⟩) 1 1] 27)) = W1 := ⟨_, rfl⟩
  have hSw : Sw w W1 (.slice A m c) (.slice A' m c') N (w.heap.size + 1 + 1 + 1 + 1 + 1) 1 [f] := by
    rw [← hW1]
    refine ⟨(((((((Boxed.new w _ _).alloc _).alloc _).alloc _).alloc _).alloc _).alloc _), ((((((Boxed.new' (w.alloc _) _ (by simp) _ _).alloc _).alloc _).alloc _).alloc _).alloc _), (((((Boxed.new' ((w.alloc _).alloc _) _ (by simp) _ _).alloc _).alloc _).alloc _).alloc _), ((((Boxed.new' (((w.alloc _).alloc _).alloc _) _ (by simp) _ _).alloc _).alloc _).alloc _), (((Boxed.new' ((((w.alloc _).alloc _).alloc _).alloc _) _ (by simp) _ _).alloc _).alloc _), Boxed.new' ((((((w.alloc _).alloc _).alloc _).alloc _).alloc _).alloc _) _ (by simp) _ _, by omega, ?_, bA (bA (bA (bA (bA (bA (bA (b0 w) _) _) _) _) _) _) _⟩
    have e := World.ownsRow_lit (base := w.heap.size + 1 + 1 + 1 + 1 + 1) (e := 3) (size := 1) (((((w.alloc (.cells #[.int .i64 N] 3)).alloc (.cells #[.slice A m c] 23)).alloc (.cells #[.slice A' m c'] 23)).alloc (.cells #[.slice none 0 0] 27)).alloc (.cells #[.bool false] 4)) #[.int .i64 f] 1 (by simp) (by decide) rfl
    simp only [World.size_alloc] at e
    exact e.alloc _
  rw [hW1]
  clear hW1
  have HF1 := Lib.hid (Vm.AmS.one (G := G) f1 f2)
  go_loopw [11] (fun i wr => ampRel w (.slice A m c) (.slice A' m c') N G f i wr) (fun i _ => N - (intOf i).toNat)
  case atStart => exact ⟨[f], _, _, by simp, by simp; omega, rfl, HF1, hSw⟩
  case round =>
    clear hSw HF1
    obtain ⟨Q, g, cap, q1, q2, rfl, hQ, hS⟩ := hrel
    by_cases hlt : Q.length < N
    · obtain ⟨t1, _, t3, _⟩ := Vm.bt_all N (by omega) 0 (by omega) Q.length hlt (by omega)
      rw [HM.out] at t3
      have hamf := HO.out.amf (i := 0) (j := Q.length) (by omega) hlt (by omega)
      have hmr := HO.out.m_rng (i := 0) (j := Q.length) (by omega) hlt (by omega)
      have hgj := HO.out.ga_rng hlt
      have hg0 := HG0.out
      obtain ⟨k, hk⟩ : ∃ k, Vm.bt N 0 Q.length = k := ⟨_, rfl⟩
      rw [hk] at t1 t3
      have hkx : k < (Vm.gapL N L G).length := by rw [HXL.out]; exact t3
      have hkl : k < L.length := by rw [HLL.out]; exact t3
      have ex : (Vm.gapL N L G)[k].1 = (Vm.vget N (Vm.gapL N L G) ((0 : Nat) : Int) (Q.length : Int)).1 := by
        rw [Vm.vget, if_neg (by omega), t1, Int.toNat_natCast]; simp [hkx]
      have el : L[k].1 = (Vm.vget N L ((0 : Nat) : Int) (Q.length : Int)).1 := by
        rw [Vm.vget, if_neg (by omega), t1, Int.toNat_natCast]; simp [hkl]
      obtain ⟨bx, ox, eA, hbx, cx, -⟩ := (h.below hS.below).pair_at hkx
      obtain ⟨bl, ol, eB, hbl, cl, -⟩ := (h'.below hS.below).pair_at hkl
      rw [ex, hamf] at cx
      rw [el] at cl
      obtain ⟨mm, hmm⟩ : ∃ x, (Vm.vget N L ((0 : Nat) : Int) (Q.length : Int)).1 = x := ⟨_, rfl⟩
      rw [hmm] at cx cl hmr
      obtain ⟨g0, hg0e⟩ : ∃ x, Vm.ga G 0 = x := ⟨_, rfl⟩
      obtain ⟨gj, hgje⟩ : ∃ x, Vm.ga G Q.length = x := ⟨_, rfl⟩
      have HGE := Lib.hid hg0e
      have HJE := Lib.hid hgje
      rw [hg0e, hgje] at cx
      rw [hg0e] at hg0
      rw [hgje] at hgj
      have hnext := Vm.amp_next hmr.1 f1 hg0.1 hgj.1 hgj.2
      have hp1 := Vm.pos_mul hmr.1 f1
      have hp2 : mm * f ≤ 1000000 * 99 := Int.mul_le_mul hmr.2 f2 (by omega) (by omega)
      have hw1 := Vm.pos_mul (Vm.pos_mul hmr.1 hg0.1) hgj.1
      have hw2 : mm * g0 ≤ 1000000 * 99 := Int.mul_le_mul hmr.2 hg0.2 (by omega) (by omega)
      have hw3 : mm * g0 * gj ≤ 1000000 * 99 * 99 := Int.mul_le_mul hw2 hgj.2 (by omega) (by omega)
      have hwr : IntKind.i64.wrap (mm * f) = mm * f := IntWalk.i64_in _ (by omega)
      obtain ⟨p, hp⟩ : ∃ x, mm * f = x := ⟨_, rfl⟩
      obtain ⟨wh, hwh⟩ : ∃ x, mm * g0 * gj = x := ⟨_, rfl⟩
      rw [hp, hwh] at hnext
      rw [hp] at hp1 hp2 hwr
      rw [hwh] at cx hw1 hw3
      have hcall : ∀ W2 : World, Calls Try.prog 50 #[.int .i64 N, .int .i64 0, .int .i64 Q.length] W2 fun e w' => e = .returned (.int .i64 k) ∧ w' = W2 := fun W2 =>
        (baseAt_any (N : Int) 0 (Q.length : Int) W2 (by omega) (by omega) (by omega) (by omega) (by omega) (by omega)).mono (fun _ _ ⟨h1, h2⟩ => ⟨h1.trans (congrArg (fun z => Ending.returned (.int .i64 z)) t1), h2.symm⟩)
      have HC := Lib.hid hcall
      have c0 := hS.x0.cell
      have c1 := hS.x1.cell
      have c2 := hS.x2.cell
      rw [eA] at c1
      rw [eB] at c2
      have hkm : (k : Int) < (m : Int) := by omega
      have hk0 : (0 : Int) ≤ (k : Int) := by omega
      have HEA := Lib.hid eA
      have HEB := Lib.hid eB
      have HPE := Lib.hid hp
      clear ex el hamf hmm hmr hg0e hgje hk hkx hkl t1 hwh hw2 eA eB hcall
      go_wp2_with fail
      go_quiet ((go_at_call 50; exact Calls.quiet_of_same (HC.out _)))
      have hSq := hS.kept (bD (Below.refl _ _) nq)
      obtain ⟨wq, hwq⟩ : ∃ W, wr.drewN nq = W := ⟨_, rfl⟩
      rw [hwq] at hSq ⊢
      clear hwq hS c0 c1 c2 cx cl
      have hq1 : wh.tmod p = wh % p := Int.tmod_eq_emod_of_nonneg (by omega)
      have hq2 : wh.tdiv p = wh / p := Int.tdiv_eq_ediv_of_nonneg (by omega)
      rw [hq1, hq2] at hnext
      clear hq1 hq2
      rcases hnext with ⟨e1, e2, e3, e4⟩ | ⟨e1, e2⟩
      · have e5 : decide ((99 : Int) < wh / p) = false := by simp; omega
        obtain ⟨z, hz⟩ : ∃ z, wh / p = z := ⟨_, rfl⟩
        rw [hz] at e2 e3 e4 e5
        have HZ := Lib.hid hz
        have HN := Lib.hid (show Vm.AmS G f (Q ++ [z]) from hQ.out.snoc q1 e3 e2 (by rw [e4, HGE.out, HJE.out]))
        have c6d : wq.drew.cell? ⟨w.heap.size + 1 + 1 + 1 + 1 + 1 + 1, 0, none⟩ = some (.slice (some ⟨g, 0, none⟩) Q.length cap) := hSq.x6.cell
        have c6a := (boxed_of_below hSq.x6 (bA (b0 wq) (.cells #[.int .i64 z] 3))).cell
        have hown1 := own_after hSq.own (bA (Below.drew (b0 wq)) (.cells #[.int .i64 z] 3))
        have hbw : w.heap.size + 1 + 1 + 1 + 1 + 1 ≤ wq.heap.size := by have := hSq.x6.lt; omega
        clear e2 e3 e4
        go_wp2_with fail
        refine wp_noPanic ?_
        refine wp_region_held_drew (S := fun _ => True) (by kernel_rfl) trivial (fun hS => ?_)
        refine wpAnyH_take (i := 1) (v := .int .i64 wh) rfl (by kernel_rfl) (by kernel_rfl) (by kernel_rfl) (fun _ _ _ h => absurd rfl (h.1 _)) (Or.inl ⟨by rfl, fun ww hSw => ?_⟩) hS ?_
        · have hz9 := HZ.out; go_simp
        refine wpAnyH_take (i := 2) (v := .int .i64 p) rfl (by kernel_rfl) (by kernel_rfl) (by kernel_rfl) (fun _ _ _ h => absurd rfl (h.1 _)) (Or.inl ⟨by rfl, fun ww hSw => ?_⟩) hS ?_
        · have hz9 := HZ.out; go_simp
        refine wpAnyH_take (i := 3) (v := .int .i64 z) rfl (by kernel_rfl) (by kernel_rfl) (by kernel_rfl) (fun _ _ _ h => absurd rfl (h.1 _)) (Or.inl ⟨by rfl, fun ww hSw => ?_⟩) hS ?_
        · have hz9 := HZ.out; go_simp; rw [if_neg (show ¬ p = 0 by omega), Int.tdiv_eq_ediv_of_nonneg (by omega), hz9, IntWalk.i64_in z (by have := HN.out; have h9 := this Q.length (by simp); simp at h9; omega)]
        refine wpAnyH_ready (rs := [0, 4]) (by kernel_rfl) (by simp) ?_
        refine AllReadyH.cons rfl (fun K hK => ?_) (AllReadyH.cons rfl (fun K hK => ?_) AllReadyH.nil)
        · go_simp
          refine hK.out _ _ trivial (fun hS => ?_)
          clear hK K
          refine wpAnyH_ready (rs := [4]) (by kernel_rfl) (by simp) ?_
          refine AllReadyH.cons rfl (fun K hK => ?_) AllReadyH.nil
          go_simp
          refine hK.out _ _ trivial (fun hS => ?_)
          clear hK K
          refine wpAnyH_ready (rs := [5]) (by kernel_rfl) (by simp) ?_
          refine AllReadyH.cons rfl (fun K hK => ?_) AllReadyH.nil
          refine step_append_lies _ rfl (.tmp 50) (.tmp 54) 27 rfl (w.heap.size + 1 + 1 + 1 + 1 + 1) 3 i0 _ 1 8 Try.underlying27 hi hz0 hz1 hz2 rfl (by decide) (.slice (some ⟨g, 0, none⟩) Q.length cap) Q.length (ci Q) rfl hown1 ⟨wq.heap.size, 0, none⟩ 1 1 [.int .i64 z] rfl rfl (new_cells wq.drew _ _) (by intro u hu; simp at hu; subst hu; rfl) (by omega) (by unfold maxLen; omega) (by omega) (by simp; omega) (wq.heap.size + 1) (by simp) ?_
          intro g' cap' w5 hown5 hgrow5 hg5 hlt5
          obtain ⟨e6, hS5⟩ := hSq.step hown5 hgrow5 hg5
          have k1 := e6.cell
          have k2 := e6.frozen
          refine hK.out _ _ trivial (fun hS => ?_)
          clear hK K
          refine wpAnyH_ready (rs := [6]) (by kernel_rfl) (by simp) ?_
          refine AllReadyH.cons rfl (fun K hK => ?_) AllReadyH.nil
          go_simp
          refine hK.out _ _ trivial (fun hS => ?_)
          clear hK K
          refine ⟨by kernel_rfl, ?_⟩
          refine ⟨(fun c e => by cases e), ?_⟩
          go_wp2_with fail
          go_roundw
          case rel => exact ⟨Q ++ [z], g', cap', by simp, by simp; omega, by simp, HN, hS5⟩
          case measure => simp [intOf]; omega
        · go_simp
          refine hK.out _ _ trivial (fun hS => ?_)
          clear hK K
          refine wpAnyH_ready (rs := [0]) (by kernel_rfl) (by simp) ?_
          refine AllReadyH.cons rfl (fun K hK => ?_) AllReadyH.nil
          go_simp
          refine hK.out _ _ trivial (fun hS => ?_)
          clear hK K
          refine wpAnyH_ready (rs := [5]) (by kernel_rfl) (by simp) ?_
          refine AllReadyH.cons rfl (fun K hK => ?_) AllReadyH.nil
          refine step_append_lies _ rfl (.tmp 50) (.tmp 54) 27 rfl (w.heap.size + 1 + 1 + 1 + 1 + 1) 3 i0 _ 1 8 Try.underlying27 hi hz0 hz1 hz2 rfl (by decide) (.slice (some ⟨g, 0, none⟩) Q.length cap) Q.length (ci Q) rfl hown1 ⟨wq.heap.size, 0, none⟩ 1 1 [.int .i64 z] rfl rfl (new_cells wq.drew _ _) (by intro u hu; simp at hu; subst hu; rfl) (by omega) (by unfold maxLen; omega) (by omega) (by simp; omega) (wq.heap.size + 1) (by simp) ?_
          intro g' cap' w5 hown5 hgrow5 hg5 hlt5
          obtain ⟨e6, hS5⟩ := hSq.step hown5 hgrow5 hg5
          have k1 := e6.cell
          have k2 := e6.frozen
          refine hK.out _ _ trivial (fun hS => ?_)
          clear hK K
          refine wpAnyH_ready (rs := [6]) (by kernel_rfl) (by simp) ?_
          refine AllReadyH.cons rfl (fun K hK => ?_) AllReadyH.nil
          go_simp
          refine hK.out _ _ trivial (fun hS => ?_)
          clear hK K
          refine ⟨by kernel_rfl, ?_⟩
          refine ⟨(fun c e => by cases e), ?_⟩
          go_wp2_with fail
          go_roundw
          case rel => exact ⟨Q ++ [z], g', cap', by simp, by simp; omega, by simp, HN, hS5⟩
          case measure => simp [intOf]; omega
      · have k3 := hSq.x3.cell
        have k4 := hSq.x4.cell
        have k5 := hSq.x3.frozen
        have k6 := hSq.x4.frozen
        have HP : Hid (SampPost N G f w (.returned (.tuple #[.slice none 0 0, .bool false])) ((wq.setCell ⟨w.heap.size + 1 + 1 + 1, 0, none⟩ (.slice none 0 0)).setCell ⟨w.heap.size + 1 + 1 + 1 + 1, 0, none⟩ (.bool false))) :=
          .inr ⟨by rw [HGE.out]; exact e2, rfl, bS (bS hSq.below (p := ⟨w.heap.size + 1 + 1 + 1, 0, none⟩) (by show w.heap.size ≤ w.heap.size + 1 + 1 + 1; omega) _) (p := ⟨w.heap.size + 1 + 1 + 1 + 1, 0, none⟩) (by show w.heap.size ≤ w.heap.size + 1 + 1 + 1 + 1; omega) _⟩
        have k7 := (Boxed.set (.bool false) (hSq.x4.other (B' := w.heap.size + 1 + 1 + 1) (by omega) (.slice none 0 0))).cell
        have k8 := ((Boxed.set (.slice none 0 0) hSq.x3).other (B' := w.heap.size + 1 + 1 + 1 + 1) (by omega) (.bool false)).cell
        clear e2 hSq
        by_cases e3 : wh % p = 0
        · have e5 : decide ((99 : Int) < wh / p) = true := by
            rcases e1 with e1 | e1
            · exact absurd e3 e1
            · simp; omega
          clear e1
          go_wp2_with fail
          exact ⟨.tuple #[.slice none 0 0, .bool false], by simp [results, Try.results78, go_sem, k7, k8], HP.out⟩
        · clear e1
          go_wp2_with fail
          exact ⟨.tuple #[.slice none 0 0, .bool false], by simp [results, Try.results78, go_sem, k7, k8], HP.out⟩
    · obtain hQN : Q.length = N := by omega
      have HQN := Lib.hid hQN
      clear hlt q1 q2
      have c0 := hS.x0.cell
      go_wp2_with (go_at_call 59; refine (bases_any _ _).mono ?_; rintro e w' ⟨rfl, rfl⟩)
      obtain ⟨W0, hW0⟩ : ∃ W0, wr.alloc (.cells #[.int .i64 N] 3) = W0 := ⟨_, rfl⟩
      have hs0 : W0.heap.size = wr.heap.size + 1 := by rw [← hW0]; simp
      have hS0 := hS.kept (bA (Below.refl _ wr) (.cells #[.int .i64 N] 3))
      have bxn : Boxed W0 wr.heap.size 3 (.int .i64 N) := by rw [← hW0]; exact Boxed.new wr _ _
      rw [hW0] at hS0 ⊢
      have h6lt := hS.x6.lt
      have HS0 := Lib.hid hs0
      clear hW0 hs0 hS c0
      refine (wpIn_wide (n := 6)).1 ?_
      refine' range_law (n := 6) (gf := 75) (lb := #[.pointer (some ⟨wr.heap.size, 0, none⟩)]) (xs := Vm.basesL N) (encs := encB) (Kp := keepC wr.heap.size) rfl (enters_of Try.func75 (by kernel_rfl) rfl)
        (bases_seq 5 N (by omega) h7 wr.heap.size W0 (by rw [HS0.out]; omega) bxn.cell) (Below.refl _ _) keepC_t (keepC_b (by rw [HS0.out]; omega)) (fun _ => rfl)
        (fun pre W => (∀ x ∈ pre, Vm.fitP N L G Q x) ∧ rowJ (w.heap.size + 1 + 1 + 1 + 1 + 1) (w.heap.size + 1 + 1 + 1 + 1 + 1 + 1) (fun _ => Q) pre W ∧ Boxed W w.heap.size 3 (.int .i64 N) ∧ Boxed W (w.heap.size + 1) 23 (.slice A m c) ∧ Boxed W (w.heap.size + 1 + 1) 23 (.slice A' m c') ∧ Boxed W (w.heap.size + 1 + 1 + 1) 27 (.slice none 0 0) ∧ Boxed W (w.heap.size + 1 + 1 + 1 + 1) 4 (.bool false) ∧ Boxed W wr.heap.size 3 (.int .i64 N) ∧ Below w.heap.size w W)
        (fun cc _ W => cc = .ret ∧ f ≠ Vm.ga G 0 ∧ Boxed W (w.heap.size + 1 + 1 + 1) 27 (.slice none 0 0) ∧ Boxed W (w.heap.size + 1 + 1 + 1 + 1) 4 (.bool false) ∧ Below w.heap.size w W)
        (OwnFrom.and (ownFrom_pure _ (fun pre : List (Nat × Nat) => ∀ x ∈ pre, Vm.fitP N L G Q x)) (OwnFrom.and (rowJ_own _ _ _ _) (OwnFrom.and (ownFrom_box _ _ _ _) (OwnFrom.and (ownFrom_box _ _ _ _) (OwnFrom.and (ownFrom_box _ _ _ _) (OwnFrom.and (ownFrom_box _ _ _ _) (OwnFrom.and (ownFrom_box _ _ _ _) (OwnFrom.and (ownFrom_box _ _ _ _) (ownFrom_below (Nat.le_refl _) hS0.below.size)))))))))
        (fun cc => fun s X Y row hs hg hr => by
          obtain ⟨e1, e2, e3, e4, e5⟩ := hs
          exact ⟨e1, e2, ownFrom_box (β := Unit) W0.heap.size _ _ _ () X Y row e3 hg hr, ownFrom_box (β := Unit) W0.heap.size _ _ _ () X Y row e4 hg hr, ownFrom_below (β := Unit) (Nat.le_refl _) hS0.below.size () X Y row e5 hg hr⟩)
        ⟨(fun _ hx => by cases hx), ⟨_, hS0.x6, hS0.own, trivial⟩, hS0.x0, hS0.x1, hS0.x2, hS0.x3, hS0.x4, bxn, hS0.below⟩
        _ ?assign ?body ?done ?stop
      case assign =>
        intro l x W K hK
        simp only [encB]
        gi_wp2
        exact hK
      case body =>
        clear hQN
        rintro l pre x W ⟨hfit, ⟨v, hv, hrow, -⟩, c0, c1, c2, c3, c4, cn, hB⟩ hpre
        obtain ⟨pl, x12, x2N, plen, pq⟩ := prefix_at h7 hpre
        rw [HM.out] at plen
        have HFIT := Lib.hid hfit
        obtain ⟨k, hk⟩ : ∃ k, pre.length = k := ⟨_, rfl⟩
        rw [hk] at plen pl
        have t1 : Vm.bidx (N : Int) (x.1 : Int) (x.2 : Int) = (k : Int) := by rw [pl]; exact (Vm.bt_all N (by omega) x.1 (by omega) x.2 x2N x12).1
        have hkx : k < (Vm.gapL N L G).length := by rw [HXL.out]; exact plen
        have hkl : k < L.length := by rw [HLL.out]; exact plen
        have ex : (Vm.gapL N L G)[k].1 = (Vm.vget N (Vm.gapL N L G) (x.1 : Int) (x.2 : Int)).1 := by
          rw [Vm.vget, if_neg (by omega), t1, Int.toNat_natCast]; simp [hkx]
        have el : L[k].1 = (Vm.vget N L (x.1 : Int) (x.2 : Int)).1 := by
          rw [Vm.vget, if_neg (by omega), t1, Int.toNat_natCast]; simp [hkl]
        obtain ⟨bx, ox, eA, hbx, cx, -⟩ := (h.below hB).pair_at hkx
        obtain ⟨bl, ol, eB, hbl, cl, -⟩ := (h'.below hB).pair_at hkl
        have hmr := HO.out.m_rng (i := x.1) (j := x.2) (by omega) x2N (by omega)
        have hi1 : x.1 < Q.length := by rw [HQN.out]; omega
        have hi2 : x.2 < Q.length := by rw [HQN.out]; omega
        obtain ⟨Av, cv, rfl⟩ := own_form hrow
        obtain ⟨bq, oq, eQ, hbq, cqi⟩ := (Rd.of_own hrow).int_at hi1
        obtain ⟨bq', oq', eQ', hbq', cqj⟩ := (Rd.of_own hrow).int_at hi2
        rw [eQ] at eQ'
        injection eQ' with eQ'
        injection eQ' with u1 u2
        subst u1 u2
        have ei : Q.getD x.1 0 = Q[x.1] := by rw [List.getD_eq_getElem?_getD, List.getElem?_eq_getElem hi1]; rfl
        have ej : Q.getD x.2 0 = Q[x.2] := by rw [List.getD_eq_getElem?_getD, List.getElem?_eq_getElem hi2]; rfl
        have ri := (hQ.out x.1 hi1).1
        have rj := (hQ.out x.2 hi2).1
        have hmiss := fun hn => hQ.out.miss HO.out HQN.out x12 x2N hn
        have hdef : Vm.fitP N L G Q x = ((Vm.vget N (Vm.gapL N L G) (x.1 : Int) (x.2 : Int)).1 = (Vm.vget N L (x.1 : Int) (x.2 : Int)).1 * Q.getD x.1 0 * Q.getD x.2 0) := rfl
        have hout := HO.out.out.get (i := (x.1 : Int)) (j := (x.2 : Int)) (by omega) (by omega) (by omega)
        rw [hdef, ei, ej, ← ex, ← el] at hmiss
        rw [ei, ej, ← ex, ← el] at hdef
        rw [← el] at hmr
        rw [← ex] at hout
        rw [ei] at ri
        rw [ej] at rj
        have h1 := hout.1
        clear hout ei ej ex el
        obtain ⟨wh, hwh⟩ : ∃ z, (Vm.gapL N L G)[k].1 = z := ⟨_, rfl⟩
        obtain ⟨mm, hmm⟩ : ∃ z, L[k].1 = z := ⟨_, rfl⟩
        obtain ⟨qi, hqi⟩ : ∃ z, Q[x.1] = z := ⟨_, rfl⟩
        obtain ⟨qj, hqj⟩ : ∃ z, Q[x.2] = z := ⟨_, rfl⟩
        rw [hwh] at cx hmiss hdef h1
        rw [hmm] at cl hmiss hdef hmr
        rw [hqi] at cqi hmiss hdef ri
        rw [hqj] at cqj hmiss hdef rj
        have HD := Lib.hid hdef
        have p1 := Vm.pos_mul hmr.1 ri.1
        have p2 : mm * qi ≤ 1000000 * 99 := Int.mul_le_mul hmr.2 ri.2 (by omega) (by omega)
        have p3 := Vm.pos_mul p1 rj.1
        have p4 : mm * qi * qj ≤ 1000000 * 99 * 99 := Int.mul_le_mul p2 rj.2 (by omega) (by omega)
        have u1 : IntKind.i64.wrap (mm * qi) = mm * qi := IntWalk.i64_in _ (by omega)
        have u2 : IntKind.i64.wrap (mm * qi * qj) = mm * qi * qj := IntWalk.i64_in _ (by omega)
        have i1 : (k : Int) < (m : Int) := by omega
        have i2 : (x.1 : Int) < (Q.length : Int) := by omega
        have i3 : (x.2 : Int) < (Q.length : Int) := by omega
        have hcall : Calls Try.prog 50 #[.int .i64 N, .int .i64 x.1, .int .i64 x.2] W fun e w' => e = .returned (.int .i64 k) ∧ W = w' :=
          (baseAt_any (N : Int) x.1 x.2 W (by omega) (by omega) (by omega) (by omega) (by omega) (by omega)).mono (fun _ _ ⟨h1, h2⟩ => ⟨h1.trans (congrArg (fun z => Ending.returned (.int .i64 z)) t1), h2⟩)
        have z0 := c0.lt
        have z1 := c1.lt
        have z2 := c2.lt
        have z6 := hv.lt
        have hc0 := c0.cell
        have C1 := Lib.hid c1
        have C2 := Lib.hid c2
        have HV := Lib.hid hv
        rw [eA] at c1
        rw [eB] at c2
        rw [eQ] at hv
        have hHk := Lib.hid hk
        clear hwh hmm hqi hqj hdef t1 pq pl hkx hkl hfit hk
        gi_wp2_with fail
        refine ⟨trivial, (CallsIn.inRound l (callsIn_wide.2 hcall)).mono ?_⟩
        rintro e w4 ⟨rfl, rfl⟩
        clear hc0 hcall
        gi_wp2_with fail
        rename_i K7 aK7
        by_cases hfx : wh = mm * qi * qj
        · have HT := Lib.hid (show Vm.fitP N L G Q x by rw [HD.out]; exact hfx)
          have hb : (wh != mm * qi * qj) = false := by simp [hfx]
          clear hmiss hfx
          refine round_held (S := fun W' => Below W.heap.size W W') (by kernel_rfl) (by kernel_rfl) (noOut_then (noOut_block noOut_own)) (Below.drew (b0 W)) (fun hS => ?_)
          refine wpAnyH_take (i := 0) (v := .slice (some ⟨bx, ox, none⟩) m c) rfl (by kernel_rfl) (by kernel_rfl) (by kernel_rfl) (fun _ _ _ h => h) (Or.inl ⟨by rfl, fun ww hSw => ?_⟩) hS ?_
          · have e1 := (hSw.cell (p := ⟨w.heap.size + 1, 0, none⟩) z1).trans c1.cell; have e2 := (hSw.cell (p := ⟨w.heap.size + 1 + 1, 0, none⟩) z2).trans c2.cell; have e3 := (hSw.cell (p := ⟨w.heap.size + 1 + 1 + 1 + 1 + 1 + 1, 0, none⟩) z6).trans hv.cell; have e4 := (hSw.cell (p := ⟨bx, ox + k * 2, none⟩) (World.block_lt_of_cell? _ _ cx)).trans cx; have e5 := (hSw.cell (p := ⟨bl, ol + k * 2, none⟩) (World.block_lt_of_cell? _ _ cl)).trans cl; have e6 := (hSw.cell (p := ⟨bq, oq + x.1, none⟩) hbq).trans cqi; have e7 := (hSw.cell (p := ⟨bq, oq + x.2, none⟩) hbq').trans cqj; clear hSw; go_simp
          refine wpAnyH_take (i := 1) (v := .int .i64 k) rfl (by kernel_rfl) (by kernel_rfl) (by kernel_rfl) (fun _ _ _ h => h) (Or.inl ⟨by rfl, fun ww hSw => ?_⟩) hS ?_
          · have e1 := (hSw.cell (p := ⟨w.heap.size + 1, 0, none⟩) z1).trans c1.cell; have e2 := (hSw.cell (p := ⟨w.heap.size + 1 + 1, 0, none⟩) z2).trans c2.cell; have e3 := (hSw.cell (p := ⟨w.heap.size + 1 + 1 + 1 + 1 + 1 + 1, 0, none⟩) z6).trans hv.cell; have e4 := (hSw.cell (p := ⟨bx, ox + k * 2, none⟩) (World.block_lt_of_cell? _ _ cx)).trans cx; have e5 := (hSw.cell (p := ⟨bl, ol + k * 2, none⟩) (World.block_lt_of_cell? _ _ cl)).trans cl; have e6 := (hSw.cell (p := ⟨bq, oq + x.1, none⟩) hbq).trans cqi; have e7 := (hSw.cell (p := ⟨bq, oq + x.2, none⟩) hbq').trans cqj; clear hSw; go_simp
          refine wpAnyH_take (i := 2) (v := .pointer (some ⟨bx, ox + k * 2, none⟩)) rfl (by kernel_rfl) (by kernel_rfl) (by kernel_rfl) (fun _ _ _ h => h) (Or.inl ⟨by rfl, fun ww hSw => ?_⟩) hS ?_
          · have e1 := (hSw.cell (p := ⟨w.heap.size + 1, 0, none⟩) z1).trans c1.cell; have e2 := (hSw.cell (p := ⟨w.heap.size + 1 + 1, 0, none⟩) z2).trans c2.cell; have e3 := (hSw.cell (p := ⟨w.heap.size + 1 + 1 + 1 + 1 + 1 + 1, 0, none⟩) z6).trans hv.cell; have e4 := (hSw.cell (p := ⟨bx, ox + k * 2, none⟩) (World.block_lt_of_cell? _ _ cx)).trans cx; have e5 := (hSw.cell (p := ⟨bl, ol + k * 2, none⟩) (World.block_lt_of_cell? _ _ cl)).trans cl; have e6 := (hSw.cell (p := ⟨bq, oq + x.1, none⟩) hbq).trans cqi; have e7 := (hSw.cell (p := ⟨bq, oq + x.2, none⟩) hbq').trans cqj; clear hSw; go_simp
          refine wpAnyH_take (i := 3) (v := .pointer (some ⟨bx, ox + k * 2, none⟩)) rfl (by kernel_rfl) (by kernel_rfl) (by kernel_rfl) (fun _ _ _ h => h) (Or.inl ⟨by rfl, fun ww hSw => ?_⟩) hS ?_
          · have e1 := (hSw.cell (p := ⟨w.heap.size + 1, 0, none⟩) z1).trans c1.cell; have e2 := (hSw.cell (p := ⟨w.heap.size + 1 + 1, 0, none⟩) z2).trans c2.cell; have e3 := (hSw.cell (p := ⟨w.heap.size + 1 + 1 + 1 + 1 + 1 + 1, 0, none⟩) z6).trans hv.cell; have e4 := (hSw.cell (p := ⟨bx, ox + k * 2, none⟩) (World.block_lt_of_cell? _ _ cx)).trans cx; have e5 := (hSw.cell (p := ⟨bl, ol + k * 2, none⟩) (World.block_lt_of_cell? _ _ cl)).trans cl; have e6 := (hSw.cell (p := ⟨bq, oq + x.1, none⟩) hbq).trans cqi; have e7 := (hSw.cell (p := ⟨bq, oq + x.2, none⟩) hbq').trans cqj; clear hSw; go_simp
          refine wpAnyH_take (i := 4) (v := .int .i64 wh) rfl (by kernel_rfl) (by kernel_rfl) (by kernel_rfl) (fun _ _ _ h => h) (Or.inl ⟨by rfl, fun ww hSw => ?_⟩) hS ?_
          · have e1 := (hSw.cell (p := ⟨w.heap.size + 1, 0, none⟩) z1).trans c1.cell; have e2 := (hSw.cell (p := ⟨w.heap.size + 1 + 1, 0, none⟩) z2).trans c2.cell; have e3 := (hSw.cell (p := ⟨w.heap.size + 1 + 1 + 1 + 1 + 1 + 1, 0, none⟩) z6).trans hv.cell; have e4 := (hSw.cell (p := ⟨bx, ox + k * 2, none⟩) (World.block_lt_of_cell? _ _ cx)).trans cx; have e5 := (hSw.cell (p := ⟨bl, ol + k * 2, none⟩) (World.block_lt_of_cell? _ _ cl)).trans cl; have e6 := (hSw.cell (p := ⟨bq, oq + x.1, none⟩) hbq).trans cqi; have e7 := (hSw.cell (p := ⟨bq, oq + x.2, none⟩) hbq').trans cqj; clear hSw; go_simp
          refine wpAnyH_take (i := 5) (v := .slice (some ⟨bl, ol, none⟩) m c') rfl (by kernel_rfl) (by kernel_rfl) (by kernel_rfl) (fun _ _ _ h => h) (Or.inl ⟨by rfl, fun ww hSw => ?_⟩) hS ?_
          · have e1 := (hSw.cell (p := ⟨w.heap.size + 1, 0, none⟩) z1).trans c1.cell; have e2 := (hSw.cell (p := ⟨w.heap.size + 1 + 1, 0, none⟩) z2).trans c2.cell; have e3 := (hSw.cell (p := ⟨w.heap.size + 1 + 1 + 1 + 1 + 1 + 1, 0, none⟩) z6).trans hv.cell; have e4 := (hSw.cell (p := ⟨bx, ox + k * 2, none⟩) (World.block_lt_of_cell? _ _ cx)).trans cx; have e5 := (hSw.cell (p := ⟨bl, ol + k * 2, none⟩) (World.block_lt_of_cell? _ _ cl)).trans cl; have e6 := (hSw.cell (p := ⟨bq, oq + x.1, none⟩) hbq).trans cqi; have e7 := (hSw.cell (p := ⟨bq, oq + x.2, none⟩) hbq').trans cqj; clear hSw; go_simp
          refine wpAnyH_take (i := 6) (v := .int .i64 k) rfl (by kernel_rfl) (by kernel_rfl) (by kernel_rfl) (fun _ _ _ h => h) (Or.inl ⟨by rfl, fun ww hSw => ?_⟩) hS ?_
          · have e1 := (hSw.cell (p := ⟨w.heap.size + 1, 0, none⟩) z1).trans c1.cell; have e2 := (hSw.cell (p := ⟨w.heap.size + 1 + 1, 0, none⟩) z2).trans c2.cell; have e3 := (hSw.cell (p := ⟨w.heap.size + 1 + 1 + 1 + 1 + 1 + 1, 0, none⟩) z6).trans hv.cell; have e4 := (hSw.cell (p := ⟨bx, ox + k * 2, none⟩) (World.block_lt_of_cell? _ _ cx)).trans cx; have e5 := (hSw.cell (p := ⟨bl, ol + k * 2, none⟩) (World.block_lt_of_cell? _ _ cl)).trans cl; have e6 := (hSw.cell (p := ⟨bq, oq + x.1, none⟩) hbq).trans cqi; have e7 := (hSw.cell (p := ⟨bq, oq + x.2, none⟩) hbq').trans cqj; clear hSw; go_simp
          refine wpAnyH_take (i := 7) (v := .pointer (some ⟨bl, ol + k * 2, none⟩)) rfl (by kernel_rfl) (by kernel_rfl) (by kernel_rfl) (fun _ _ _ h => h) (Or.inl ⟨by rfl, fun ww hSw => ?_⟩) hS ?_
          · have e1 := (hSw.cell (p := ⟨w.heap.size + 1, 0, none⟩) z1).trans c1.cell; have e2 := (hSw.cell (p := ⟨w.heap.size + 1 + 1, 0, none⟩) z2).trans c2.cell; have e3 := (hSw.cell (p := ⟨w.heap.size + 1 + 1 + 1 + 1 + 1 + 1, 0, none⟩) z6).trans hv.cell; have e4 := (hSw.cell (p := ⟨bx, ox + k * 2, none⟩) (World.block_lt_of_cell? _ _ cx)).trans cx; have e5 := (hSw.cell (p := ⟨bl, ol + k * 2, none⟩) (World.block_lt_of_cell? _ _ cl)).trans cl; have e6 := (hSw.cell (p := ⟨bq, oq + x.1, none⟩) hbq).trans cqi; have e7 := (hSw.cell (p := ⟨bq, oq + x.2, none⟩) hbq').trans cqj; clear hSw; go_simp
          refine wpAnyH_take (i := 8) (v := .pointer (some ⟨bl, ol + k * 2, none⟩)) rfl (by kernel_rfl) (by kernel_rfl) (by kernel_rfl) (fun _ _ _ h => h) (Or.inl ⟨by rfl, fun ww hSw => ?_⟩) hS ?_
          · have e1 := (hSw.cell (p := ⟨w.heap.size + 1, 0, none⟩) z1).trans c1.cell; have e2 := (hSw.cell (p := ⟨w.heap.size + 1 + 1, 0, none⟩) z2).trans c2.cell; have e3 := (hSw.cell (p := ⟨w.heap.size + 1 + 1 + 1 + 1 + 1 + 1, 0, none⟩) z6).trans hv.cell; have e4 := (hSw.cell (p := ⟨bx, ox + k * 2, none⟩) (World.block_lt_of_cell? _ _ cx)).trans cx; have e5 := (hSw.cell (p := ⟨bl, ol + k * 2, none⟩) (World.block_lt_of_cell? _ _ cl)).trans cl; have e6 := (hSw.cell (p := ⟨bq, oq + x.1, none⟩) hbq).trans cqi; have e7 := (hSw.cell (p := ⟨bq, oq + x.2, none⟩) hbq').trans cqj; clear hSw; go_simp
          refine wpAnyH_take (i := 9) (v := .int .i64 mm) rfl (by kernel_rfl) (by kernel_rfl) (by kernel_rfl) (fun _ _ _ h => h) (Or.inl ⟨by rfl, fun ww hSw => ?_⟩) hS ?_
          · have e1 := (hSw.cell (p := ⟨w.heap.size + 1, 0, none⟩) z1).trans c1.cell; have e2 := (hSw.cell (p := ⟨w.heap.size + 1 + 1, 0, none⟩) z2).trans c2.cell; have e3 := (hSw.cell (p := ⟨w.heap.size + 1 + 1 + 1 + 1 + 1 + 1, 0, none⟩) z6).trans hv.cell; have e4 := (hSw.cell (p := ⟨bx, ox + k * 2, none⟩) (World.block_lt_of_cell? _ _ cx)).trans cx; have e5 := (hSw.cell (p := ⟨bl, ol + k * 2, none⟩) (World.block_lt_of_cell? _ _ cl)).trans cl; have e6 := (hSw.cell (p := ⟨bq, oq + x.1, none⟩) hbq).trans cqi; have e7 := (hSw.cell (p := ⟨bq, oq + x.2, none⟩) hbq').trans cqj; clear hSw; go_simp
          refine wpAnyH_take (i := 10) (v := .slice (some ⟨bq, oq, none⟩) Q.length cv) rfl (by kernel_rfl) (by kernel_rfl) (by kernel_rfl) (fun _ _ _ h => h) (Or.inl ⟨by rfl, fun ww hSw => ?_⟩) hS ?_
          · have e1 := (hSw.cell (p := ⟨w.heap.size + 1, 0, none⟩) z1).trans c1.cell; have e2 := (hSw.cell (p := ⟨w.heap.size + 1 + 1, 0, none⟩) z2).trans c2.cell; have e3 := (hSw.cell (p := ⟨w.heap.size + 1 + 1 + 1 + 1 + 1 + 1, 0, none⟩) z6).trans hv.cell; have e4 := (hSw.cell (p := ⟨bx, ox + k * 2, none⟩) (World.block_lt_of_cell? _ _ cx)).trans cx; have e5 := (hSw.cell (p := ⟨bl, ol + k * 2, none⟩) (World.block_lt_of_cell? _ _ cl)).trans cl; have e6 := (hSw.cell (p := ⟨bq, oq + x.1, none⟩) hbq).trans cqi; have e7 := (hSw.cell (p := ⟨bq, oq + x.2, none⟩) hbq').trans cqj; clear hSw; go_simp
          refine wpAnyH_take (i := 11) (v := .int .i64 x.1) rfl (by kernel_rfl) (by kernel_rfl) (by kernel_rfl) (fun _ _ _ h => h) (Or.inl ⟨by rfl, fun ww hSw => ?_⟩) hS ?_
          · have e1 := (hSw.cell (p := ⟨w.heap.size + 1, 0, none⟩) z1).trans c1.cell; have e2 := (hSw.cell (p := ⟨w.heap.size + 1 + 1, 0, none⟩) z2).trans c2.cell; have e3 := (hSw.cell (p := ⟨w.heap.size + 1 + 1 + 1 + 1 + 1 + 1, 0, none⟩) z6).trans hv.cell; have e4 := (hSw.cell (p := ⟨bx, ox + k * 2, none⟩) (World.block_lt_of_cell? _ _ cx)).trans cx; have e5 := (hSw.cell (p := ⟨bl, ol + k * 2, none⟩) (World.block_lt_of_cell? _ _ cl)).trans cl; have e6 := (hSw.cell (p := ⟨bq, oq + x.1, none⟩) hbq).trans cqi; have e7 := (hSw.cell (p := ⟨bq, oq + x.2, none⟩) hbq').trans cqj; clear hSw; go_simp
          refine wpAnyH_take (i := 12) (v := .pointer (some ⟨bq, oq + x.1, none⟩)) rfl (by kernel_rfl) (by kernel_rfl) (by kernel_rfl) (fun _ _ _ h => h) (Or.inl ⟨by rfl, fun ww hSw => ?_⟩) hS ?_
          · have e1 := (hSw.cell (p := ⟨w.heap.size + 1, 0, none⟩) z1).trans c1.cell; have e2 := (hSw.cell (p := ⟨w.heap.size + 1 + 1, 0, none⟩) z2).trans c2.cell; have e3 := (hSw.cell (p := ⟨w.heap.size + 1 + 1 + 1 + 1 + 1 + 1, 0, none⟩) z6).trans hv.cell; have e4 := (hSw.cell (p := ⟨bx, ox + k * 2, none⟩) (World.block_lt_of_cell? _ _ cx)).trans cx; have e5 := (hSw.cell (p := ⟨bl, ol + k * 2, none⟩) (World.block_lt_of_cell? _ _ cl)).trans cl; have e6 := (hSw.cell (p := ⟨bq, oq + x.1, none⟩) hbq).trans cqi; have e7 := (hSw.cell (p := ⟨bq, oq + x.2, none⟩) hbq').trans cqj; clear hSw; go_simp
          refine wpAnyH_take (i := 13) (v := .int .i64 qi) rfl (by kernel_rfl) (by kernel_rfl) (by kernel_rfl) (fun _ _ _ h => h) (Or.inl ⟨by rfl, fun ww hSw => ?_⟩) hS ?_
          · have e1 := (hSw.cell (p := ⟨w.heap.size + 1, 0, none⟩) z1).trans c1.cell; have e2 := (hSw.cell (p := ⟨w.heap.size + 1 + 1, 0, none⟩) z2).trans c2.cell; have e3 := (hSw.cell (p := ⟨w.heap.size + 1 + 1 + 1 + 1 + 1 + 1, 0, none⟩) z6).trans hv.cell; have e4 := (hSw.cell (p := ⟨bx, ox + k * 2, none⟩) (World.block_lt_of_cell? _ _ cx)).trans cx; have e5 := (hSw.cell (p := ⟨bl, ol + k * 2, none⟩) (World.block_lt_of_cell? _ _ cl)).trans cl; have e6 := (hSw.cell (p := ⟨bq, oq + x.1, none⟩) hbq).trans cqi; have e7 := (hSw.cell (p := ⟨bq, oq + x.2, none⟩) hbq').trans cqj; clear hSw; go_simp
          refine wpAnyH_take (i := 14) (v := .int .i64 (mm * qi)) rfl (by kernel_rfl) (by kernel_rfl) (by kernel_rfl) (fun _ _ _ h => h) (Or.inl ⟨by rfl, fun ww hSw => ?_⟩) hS ?_
          · have e1 := (hSw.cell (p := ⟨w.heap.size + 1, 0, none⟩) z1).trans c1.cell; have e2 := (hSw.cell (p := ⟨w.heap.size + 1 + 1, 0, none⟩) z2).trans c2.cell; have e3 := (hSw.cell (p := ⟨w.heap.size + 1 + 1 + 1 + 1 + 1 + 1, 0, none⟩) z6).trans hv.cell; have e4 := (hSw.cell (p := ⟨bx, ox + k * 2, none⟩) (World.block_lt_of_cell? _ _ cx)).trans cx; have e5 := (hSw.cell (p := ⟨bl, ol + k * 2, none⟩) (World.block_lt_of_cell? _ _ cl)).trans cl; have e6 := (hSw.cell (p := ⟨bq, oq + x.1, none⟩) hbq).trans cqi; have e7 := (hSw.cell (p := ⟨bq, oq + x.2, none⟩) hbq').trans cqj; clear hSw; go_simp
          refine wpAnyH_take (i := 15) (v := .slice (some ⟨bq, oq, none⟩) Q.length cv) rfl (by kernel_rfl) (by kernel_rfl) (by kernel_rfl) (fun _ _ _ h => h) (Or.inl ⟨by rfl, fun ww hSw => ?_⟩) hS ?_
          · have e1 := (hSw.cell (p := ⟨w.heap.size + 1, 0, none⟩) z1).trans c1.cell; have e2 := (hSw.cell (p := ⟨w.heap.size + 1 + 1, 0, none⟩) z2).trans c2.cell; have e3 := (hSw.cell (p := ⟨w.heap.size + 1 + 1 + 1 + 1 + 1 + 1, 0, none⟩) z6).trans hv.cell; have e4 := (hSw.cell (p := ⟨bx, ox + k * 2, none⟩) (World.block_lt_of_cell? _ _ cx)).trans cx; have e5 := (hSw.cell (p := ⟨bl, ol + k * 2, none⟩) (World.block_lt_of_cell? _ _ cl)).trans cl; have e6 := (hSw.cell (p := ⟨bq, oq + x.1, none⟩) hbq).trans cqi; have e7 := (hSw.cell (p := ⟨bq, oq + x.2, none⟩) hbq').trans cqj; clear hSw; go_simp
          refine wpAnyH_take (i := 16) (v := .int .i64 x.2) rfl (by kernel_rfl) (by kernel_rfl) (by kernel_rfl) (fun _ _ _ h => h) (Or.inl ⟨by rfl, fun ww hSw => ?_⟩) hS ?_
          · have e1 := (hSw.cell (p := ⟨w.heap.size + 1, 0, none⟩) z1).trans c1.cell; have e2 := (hSw.cell (p := ⟨w.heap.size + 1 + 1, 0, none⟩) z2).trans c2.cell; have e3 := (hSw.cell (p := ⟨w.heap.size + 1 + 1 + 1 + 1 + 1 + 1, 0, none⟩) z6).trans hv.cell; have e4 := (hSw.cell (p := ⟨bx, ox + k * 2, none⟩) (World.block_lt_of_cell? _ _ cx)).trans cx; have e5 := (hSw.cell (p := ⟨bl, ol + k * 2, none⟩) (World.block_lt_of_cell? _ _ cl)).trans cl; have e6 := (hSw.cell (p := ⟨bq, oq + x.1, none⟩) hbq).trans cqi; have e7 := (hSw.cell (p := ⟨bq, oq + x.2, none⟩) hbq').trans cqj; clear hSw; go_simp
          refine wpAnyH_take (i := 17) (v := .pointer (some ⟨bq, oq + x.2, none⟩)) rfl (by kernel_rfl) (by kernel_rfl) (by kernel_rfl) (fun _ _ _ h => h) (Or.inl ⟨by rfl, fun ww hSw => ?_⟩) hS ?_
          · have e1 := (hSw.cell (p := ⟨w.heap.size + 1, 0, none⟩) z1).trans c1.cell; have e2 := (hSw.cell (p := ⟨w.heap.size + 1 + 1, 0, none⟩) z2).trans c2.cell; have e3 := (hSw.cell (p := ⟨w.heap.size + 1 + 1 + 1 + 1 + 1 + 1, 0, none⟩) z6).trans hv.cell; have e4 := (hSw.cell (p := ⟨bx, ox + k * 2, none⟩) (World.block_lt_of_cell? _ _ cx)).trans cx; have e5 := (hSw.cell (p := ⟨bl, ol + k * 2, none⟩) (World.block_lt_of_cell? _ _ cl)).trans cl; have e6 := (hSw.cell (p := ⟨bq, oq + x.1, none⟩) hbq).trans cqi; have e7 := (hSw.cell (p := ⟨bq, oq + x.2, none⟩) hbq').trans cqj; clear hSw; go_simp
          refine wpAnyH_take (i := 18) (v := .int .i64 qj) rfl (by kernel_rfl) (by kernel_rfl) (by kernel_rfl) (fun _ _ _ h => h) (Or.inl ⟨by rfl, fun ww hSw => ?_⟩) hS ?_
          · have e1 := (hSw.cell (p := ⟨w.heap.size + 1, 0, none⟩) z1).trans c1.cell; have e2 := (hSw.cell (p := ⟨w.heap.size + 1 + 1, 0, none⟩) z2).trans c2.cell; have e3 := (hSw.cell (p := ⟨w.heap.size + 1 + 1 + 1 + 1 + 1 + 1, 0, none⟩) z6).trans hv.cell; have e4 := (hSw.cell (p := ⟨bx, ox + k * 2, none⟩) (World.block_lt_of_cell? _ _ cx)).trans cx; have e5 := (hSw.cell (p := ⟨bl, ol + k * 2, none⟩) (World.block_lt_of_cell? _ _ cl)).trans cl; have e6 := (hSw.cell (p := ⟨bq, oq + x.1, none⟩) hbq).trans cqi; have e7 := (hSw.cell (p := ⟨bq, oq + x.2, none⟩) hbq').trans cqj; clear hSw; go_simp
          refine wpAnyH_take (i := 19) (v := .int .i64 (mm * qi * qj)) rfl (by kernel_rfl) (by kernel_rfl) (by kernel_rfl) (fun _ _ _ h => h) (Or.inl ⟨by rfl, fun ww hSw => ?_⟩) hS ?_
          · have e1 := (hSw.cell (p := ⟨w.heap.size + 1, 0, none⟩) z1).trans c1.cell; have e2 := (hSw.cell (p := ⟨w.heap.size + 1 + 1, 0, none⟩) z2).trans c2.cell; have e3 := (hSw.cell (p := ⟨w.heap.size + 1 + 1 + 1 + 1 + 1 + 1, 0, none⟩) z6).trans hv.cell; have e4 := (hSw.cell (p := ⟨bx, ox + k * 2, none⟩) (World.block_lt_of_cell? _ _ cx)).trans cx; have e5 := (hSw.cell (p := ⟨bl, ol + k * 2, none⟩) (World.block_lt_of_cell? _ _ cl)).trans cl; have e6 := (hSw.cell (p := ⟨bq, oq + x.1, none⟩) hbq).trans cqi; have e7 := (hSw.cell (p := ⟨bq, oq + x.2, none⟩) hbq').trans cqj; clear hSw; go_simp
          refine wpAnyH_take (i := 20) (v := .bool false) rfl (by kernel_rfl) (by kernel_rfl) (by kernel_rfl) (fun _ _ _ h => h) (Or.inl ⟨by rfl, fun ww hSw => ?_⟩) hS ?_
          · have e1 := (hSw.cell (p := ⟨w.heap.size + 1, 0, none⟩) z1).trans c1.cell; have e2 := (hSw.cell (p := ⟨w.heap.size + 1 + 1, 0, none⟩) z2).trans c2.cell; have e3 := (hSw.cell (p := ⟨w.heap.size + 1 + 1 + 1 + 1 + 1 + 1, 0, none⟩) z6).trans hv.cell; have e4 := (hSw.cell (p := ⟨bx, ox + k * 2, none⟩) (World.block_lt_of_cell? _ _ cx)).trans cx; have e5 := (hSw.cell (p := ⟨bl, ol + k * 2, none⟩) (World.block_lt_of_cell? _ _ cl)).trans cl; have e6 := (hSw.cell (p := ⟨bq, oq + x.1, none⟩) hbq).trans cqi; have e7 := (hSw.cell (p := ⟨bq, oq + x.2, none⟩) hbq').trans cqj; clear hSw; go_simp
          refine ⟨by kernel_rfl, ?_⟩
          refine aK7 _ _ ?_
          refine wpIn_act (a' := { tmps := #[.int .i64 N, .slice (some ⟨bx, ox, none⟩) m c, .slice (some ⟨bl, ol, none⟩) m c', .int .i64 f, .pointer (some ⟨w.heap.size, 0, none⟩), .pointer (some ⟨w.heap.size + 1, 0, none⟩), .pointer (some ⟨w.heap.size + 1 + 1, 0, none⟩), undef, .pointer (some ⟨w.heap.size + 1 + 1 + 1, 0, none⟩), .pointer (some ⟨w.heap.size + 1 + 1 + 1 + 1, 0, none⟩), .pointer (some ⟨w.heap.size + 1 + 1 + 1 + 1 + 1 + 1, 0, none⟩), .int .i64 N, u12, u13, .int .i64 x.1, .int .i64 x.2, .int .i64 k, .int .i64 f, .slice (some ⟨w.heap.size + 1 + 1 + 1 + 1 + 1, 0, none⟩) 1 1, .int .i64 N, .int .i64 N, .bool false, u22, u23, u24, u25, u26, u27, u28, u29, u30, u31, u32, u33, u34, u35, u36, u37, u38, u39, u40, u41, u42, u43, u44, u45, u46, u47, u48, u49, u50, u51, u52, u53, u54, u55, .int .i64 N, .func (.func 75) #[] #[.pointer (some ⟨wr.heap.size, 0, none⟩)], .int .i64 x.1, .int .i64 x.2, .int .i64 N, .int .i64 x.1, .int .i64 x.2, .int .i64 k, .slice (some ⟨bx, ox, none⟩) m c, .int .i64 k, .pointer (some ⟨bx, ox + k * 2, none⟩), .pointer (some ⟨bx, ox + k * 2, none⟩), .int .i64 wh, .slice (some ⟨bl, ol, none⟩) m c', .int .i64 k, .pointer (some ⟨bl, ol + k * 2, none⟩), .pointer (some ⟨bl, ol + k * 2, none⟩), .int .i64 mm, .slice (some ⟨bq, oq, none⟩) Q.length cv, .int .i64 x.1, .pointer (some ⟨bq, oq + x.1, none⟩), .int .i64 qi, .int .i64 (mm * qi), .slice (some ⟨bq, oq, none⟩) Q.length cv, .int .i64 x.2, .pointer (some ⟨bq, oq + x.2, none⟩), .int .i64 qj, .int .i64 (mm * qi * qj), .bool false, undef], defers := [] }) (by kernel_rfl) ?_
          clear aK7
          gi_wp2_with fail
          refine ⟨(KeepsOthers.drew W).from _, rfl, fun y hy => ?_, ⟨_, HV.out, hrow, trivial⟩, c0, C1.out, C2.out, c3, c4, cn, Below.drew hB⟩
          rcases List.mem_append.1 hy with hy | hy
          · exact HFIT.out y hy
          · obtain rfl : y = x := by simpa using hy
            exact HT.out
        · have HNE := Lib.hid (hmiss hfx)
          have hb : (wh != mm * qi * qj) = true := by simp [hfx]
          clear hmiss hfx
          refine round_held (S := fun W' => Below W.heap.size W W') (by kernel_rfl) (by kernel_rfl) (noOut_then (noOut_block noOut_own)) (Below.drew (b0 W)) (fun hS => ?_)
          refine wpAnyH_take (i := 0) (v := .slice (some ⟨bx, ox, none⟩) m c) rfl (by kernel_rfl) (by kernel_rfl) (by kernel_rfl) (fun _ _ _ h => h) (Or.inl ⟨by rfl, fun ww hSw => ?_⟩) hS ?_
          · have e1 := (hSw.cell (p := ⟨w.heap.size + 1, 0, none⟩) z1).trans c1.cell; have e2 := (hSw.cell (p := ⟨w.heap.size + 1 + 1, 0, none⟩) z2).trans c2.cell; have e3 := (hSw.cell (p := ⟨w.heap.size + 1 + 1 + 1 + 1 + 1 + 1, 0, none⟩) z6).trans hv.cell; have e4 := (hSw.cell (p := ⟨bx, ox + k * 2, none⟩) (World.block_lt_of_cell? _ _ cx)).trans cx; have e5 := (hSw.cell (p := ⟨bl, ol + k * 2, none⟩) (World.block_lt_of_cell? _ _ cl)).trans cl; have e6 := (hSw.cell (p := ⟨bq, oq + x.1, none⟩) hbq).trans cqi; have e7 := (hSw.cell (p := ⟨bq, oq + x.2, none⟩) hbq').trans cqj; clear hSw; go_simp
          refine wpAnyH_take (i := 1) (v := .int .i64 k) rfl (by kernel_rfl) (by kernel_rfl) (by kernel_rfl) (fun _ _ _ h => h) (Or.inl ⟨by rfl, fun ww hSw => ?_⟩) hS ?_
          · have e1 := (hSw.cell (p := ⟨w.heap.size + 1, 0, none⟩) z1).trans c1.cell; have e2 := (hSw.cell (p := ⟨w.heap.size + 1 + 1, 0, none⟩) z2).trans c2.cell; have e3 := (hSw.cell (p := ⟨w.heap.size + 1 + 1 + 1 + 1 + 1 + 1, 0, none⟩) z6).trans hv.cell; have e4 := (hSw.cell (p := ⟨bx, ox + k * 2, none⟩) (World.block_lt_of_cell? _ _ cx)).trans cx; have e5 := (hSw.cell (p := ⟨bl, ol + k * 2, none⟩) (World.block_lt_of_cell? _ _ cl)).trans cl; have e6 := (hSw.cell (p := ⟨bq, oq + x.1, none⟩) hbq).trans cqi; have e7 := (hSw.cell (p := ⟨bq, oq + x.2, none⟩) hbq').trans cqj; clear hSw; go_simp
          refine wpAnyH_take (i := 2) (v := .pointer (some ⟨bx, ox + k * 2, none⟩)) rfl (by kernel_rfl) (by kernel_rfl) (by kernel_rfl) (fun _ _ _ h => h) (Or.inl ⟨by rfl, fun ww hSw => ?_⟩) hS ?_
          · have e1 := (hSw.cell (p := ⟨w.heap.size + 1, 0, none⟩) z1).trans c1.cell; have e2 := (hSw.cell (p := ⟨w.heap.size + 1 + 1, 0, none⟩) z2).trans c2.cell; have e3 := (hSw.cell (p := ⟨w.heap.size + 1 + 1 + 1 + 1 + 1 + 1, 0, none⟩) z6).trans hv.cell; have e4 := (hSw.cell (p := ⟨bx, ox + k * 2, none⟩) (World.block_lt_of_cell? _ _ cx)).trans cx; have e5 := (hSw.cell (p := ⟨bl, ol + k * 2, none⟩) (World.block_lt_of_cell? _ _ cl)).trans cl; have e6 := (hSw.cell (p := ⟨bq, oq + x.1, none⟩) hbq).trans cqi; have e7 := (hSw.cell (p := ⟨bq, oq + x.2, none⟩) hbq').trans cqj; clear hSw; go_simp
          refine wpAnyH_take (i := 3) (v := .pointer (some ⟨bx, ox + k * 2, none⟩)) rfl (by kernel_rfl) (by kernel_rfl) (by kernel_rfl) (fun _ _ _ h => h) (Or.inl ⟨by rfl, fun ww hSw => ?_⟩) hS ?_
          · have e1 := (hSw.cell (p := ⟨w.heap.size + 1, 0, none⟩) z1).trans c1.cell; have e2 := (hSw.cell (p := ⟨w.heap.size + 1 + 1, 0, none⟩) z2).trans c2.cell; have e3 := (hSw.cell (p := ⟨w.heap.size + 1 + 1 + 1 + 1 + 1 + 1, 0, none⟩) z6).trans hv.cell; have e4 := (hSw.cell (p := ⟨bx, ox + k * 2, none⟩) (World.block_lt_of_cell? _ _ cx)).trans cx; have e5 := (hSw.cell (p := ⟨bl, ol + k * 2, none⟩) (World.block_lt_of_cell? _ _ cl)).trans cl; have e6 := (hSw.cell (p := ⟨bq, oq + x.1, none⟩) hbq).trans cqi; have e7 := (hSw.cell (p := ⟨bq, oq + x.2, none⟩) hbq').trans cqj; clear hSw; go_simp
          refine wpAnyH_take (i := 4) (v := .int .i64 wh) rfl (by kernel_rfl) (by kernel_rfl) (by kernel_rfl) (fun _ _ _ h => h) (Or.inl ⟨by rfl, fun ww hSw => ?_⟩) hS ?_
          · have e1 := (hSw.cell (p := ⟨w.heap.size + 1, 0, none⟩) z1).trans c1.cell; have e2 := (hSw.cell (p := ⟨w.heap.size + 1 + 1, 0, none⟩) z2).trans c2.cell; have e3 := (hSw.cell (p := ⟨w.heap.size + 1 + 1 + 1 + 1 + 1 + 1, 0, none⟩) z6).trans hv.cell; have e4 := (hSw.cell (p := ⟨bx, ox + k * 2, none⟩) (World.block_lt_of_cell? _ _ cx)).trans cx; have e5 := (hSw.cell (p := ⟨bl, ol + k * 2, none⟩) (World.block_lt_of_cell? _ _ cl)).trans cl; have e6 := (hSw.cell (p := ⟨bq, oq + x.1, none⟩) hbq).trans cqi; have e7 := (hSw.cell (p := ⟨bq, oq + x.2, none⟩) hbq').trans cqj; clear hSw; go_simp
          refine wpAnyH_take (i := 5) (v := .slice (some ⟨bl, ol, none⟩) m c') rfl (by kernel_rfl) (by kernel_rfl) (by kernel_rfl) (fun _ _ _ h => h) (Or.inl ⟨by rfl, fun ww hSw => ?_⟩) hS ?_
          · have e1 := (hSw.cell (p := ⟨w.heap.size + 1, 0, none⟩) z1).trans c1.cell; have e2 := (hSw.cell (p := ⟨w.heap.size + 1 + 1, 0, none⟩) z2).trans c2.cell; have e3 := (hSw.cell (p := ⟨w.heap.size + 1 + 1 + 1 + 1 + 1 + 1, 0, none⟩) z6).trans hv.cell; have e4 := (hSw.cell (p := ⟨bx, ox + k * 2, none⟩) (World.block_lt_of_cell? _ _ cx)).trans cx; have e5 := (hSw.cell (p := ⟨bl, ol + k * 2, none⟩) (World.block_lt_of_cell? _ _ cl)).trans cl; have e6 := (hSw.cell (p := ⟨bq, oq + x.1, none⟩) hbq).trans cqi; have e7 := (hSw.cell (p := ⟨bq, oq + x.2, none⟩) hbq').trans cqj; clear hSw; go_simp
          refine wpAnyH_take (i := 6) (v := .int .i64 k) rfl (by kernel_rfl) (by kernel_rfl) (by kernel_rfl) (fun _ _ _ h => h) (Or.inl ⟨by rfl, fun ww hSw => ?_⟩) hS ?_
          · have e1 := (hSw.cell (p := ⟨w.heap.size + 1, 0, none⟩) z1).trans c1.cell; have e2 := (hSw.cell (p := ⟨w.heap.size + 1 + 1, 0, none⟩) z2).trans c2.cell; have e3 := (hSw.cell (p := ⟨w.heap.size + 1 + 1 + 1 + 1 + 1 + 1, 0, none⟩) z6).trans hv.cell; have e4 := (hSw.cell (p := ⟨bx, ox + k * 2, none⟩) (World.block_lt_of_cell? _ _ cx)).trans cx; have e5 := (hSw.cell (p := ⟨bl, ol + k * 2, none⟩) (World.block_lt_of_cell? _ _ cl)).trans cl; have e6 := (hSw.cell (p := ⟨bq, oq + x.1, none⟩) hbq).trans cqi; have e7 := (hSw.cell (p := ⟨bq, oq + x.2, none⟩) hbq').trans cqj; clear hSw; go_simp
          refine wpAnyH_take (i := 7) (v := .pointer (some ⟨bl, ol + k * 2, none⟩)) rfl (by kernel_rfl) (by kernel_rfl) (by kernel_rfl) (fun _ _ _ h => h) (Or.inl ⟨by rfl, fun ww hSw => ?_⟩) hS ?_
          · have e1 := (hSw.cell (p := ⟨w.heap.size + 1, 0, none⟩) z1).trans c1.cell; have e2 := (hSw.cell (p := ⟨w.heap.size + 1 + 1, 0, none⟩) z2).trans c2.cell; have e3 := (hSw.cell (p := ⟨w.heap.size + 1 + 1 + 1 + 1 + 1 + 1, 0, none⟩) z6).trans hv.cell; have e4 := (hSw.cell (p := ⟨bx, ox + k * 2, none⟩) (World.block_lt_of_cell? _ _ cx)).trans cx; have e5 := (hSw.cell (p := ⟨bl, ol + k * 2, none⟩) (World.block_lt_of_cell? _ _ cl)).trans cl; have e6 := (hSw.cell (p := ⟨bq, oq + x.1, none⟩) hbq).trans cqi; have e7 := (hSw.cell (p := ⟨bq, oq + x.2, none⟩) hbq').trans cqj; clear hSw; go_simp
          refine wpAnyH_take (i := 8) (v := .pointer (some ⟨bl, ol + k * 2, none⟩)) rfl (by kernel_rfl) (by kernel_rfl) (by kernel_rfl) (fun _ _ _ h => h) (Or.inl ⟨by rfl, fun ww hSw => ?_⟩) hS ?_
          · have e1 := (hSw.cell (p := ⟨w.heap.size + 1, 0, none⟩) z1).trans c1.cell; have e2 := (hSw.cell (p := ⟨w.heap.size + 1 + 1, 0, none⟩) z2).trans c2.cell; have e3 := (hSw.cell (p := ⟨w.heap.size + 1 + 1 + 1 + 1 + 1 + 1, 0, none⟩) z6).trans hv.cell; have e4 := (hSw.cell (p := ⟨bx, ox + k * 2, none⟩) (World.block_lt_of_cell? _ _ cx)).trans cx; have e5 := (hSw.cell (p := ⟨bl, ol + k * 2, none⟩) (World.block_lt_of_cell? _ _ cl)).trans cl; have e6 := (hSw.cell (p := ⟨bq, oq + x.1, none⟩) hbq).trans cqi; have e7 := (hSw.cell (p := ⟨bq, oq + x.2, none⟩) hbq').trans cqj; clear hSw; go_simp
          refine wpAnyH_take (i := 9) (v := .int .i64 mm) rfl (by kernel_rfl) (by kernel_rfl) (by kernel_rfl) (fun _ _ _ h => h) (Or.inl ⟨by rfl, fun ww hSw => ?_⟩) hS ?_
          · have e1 := (hSw.cell (p := ⟨w.heap.size + 1, 0, none⟩) z1).trans c1.cell; have e2 := (hSw.cell (p := ⟨w.heap.size + 1 + 1, 0, none⟩) z2).trans c2.cell; have e3 := (hSw.cell (p := ⟨w.heap.size + 1 + 1 + 1 + 1 + 1 + 1, 0, none⟩) z6).trans hv.cell; have e4 := (hSw.cell (p := ⟨bx, ox + k * 2, none⟩) (World.block_lt_of_cell? _ _ cx)).trans cx; have e5 := (hSw.cell (p := ⟨bl, ol + k * 2, none⟩) (World.block_lt_of_cell? _ _ cl)).trans cl; have e6 := (hSw.cell (p := ⟨bq, oq + x.1, none⟩) hbq).trans cqi; have e7 := (hSw.cell (p := ⟨bq, oq + x.2, none⟩) hbq').trans cqj; clear hSw; go_simp
          refine wpAnyH_take (i := 10) (v := .slice (some ⟨bq, oq, none⟩) Q.length cv) rfl (by kernel_rfl) (by kernel_rfl) (by kernel_rfl) (fun _ _ _ h => h) (Or.inl ⟨by rfl, fun ww hSw => ?_⟩) hS ?_
          · have e1 := (hSw.cell (p := ⟨w.heap.size + 1, 0, none⟩) z1).trans c1.cell; have e2 := (hSw.cell (p := ⟨w.heap.size + 1 + 1, 0, none⟩) z2).trans c2.cell; have e3 := (hSw.cell (p := ⟨w.heap.size + 1 + 1 + 1 + 1 + 1 + 1, 0, none⟩) z6).trans hv.cell; have e4 := (hSw.cell (p := ⟨bx, ox + k * 2, none⟩) (World.block_lt_of_cell? _ _ cx)).trans cx; have e5 := (hSw.cell (p := ⟨bl, ol + k * 2, none⟩) (World.block_lt_of_cell? _ _ cl)).trans cl; have e6 := (hSw.cell (p := ⟨bq, oq + x.1, none⟩) hbq).trans cqi; have e7 := (hSw.cell (p := ⟨bq, oq + x.2, none⟩) hbq').trans cqj; clear hSw; go_simp
          refine wpAnyH_take (i := 11) (v := .int .i64 x.1) rfl (by kernel_rfl) (by kernel_rfl) (by kernel_rfl) (fun _ _ _ h => h) (Or.inl ⟨by rfl, fun ww hSw => ?_⟩) hS ?_
          · have e1 := (hSw.cell (p := ⟨w.heap.size + 1, 0, none⟩) z1).trans c1.cell; have e2 := (hSw.cell (p := ⟨w.heap.size + 1 + 1, 0, none⟩) z2).trans c2.cell; have e3 := (hSw.cell (p := ⟨w.heap.size + 1 + 1 + 1 + 1 + 1 + 1, 0, none⟩) z6).trans hv.cell; have e4 := (hSw.cell (p := ⟨bx, ox + k * 2, none⟩) (World.block_lt_of_cell? _ _ cx)).trans cx; have e5 := (hSw.cell (p := ⟨bl, ol + k * 2, none⟩) (World.block_lt_of_cell? _ _ cl)).trans cl; have e6 := (hSw.cell (p := ⟨bq, oq + x.1, none⟩) hbq).trans cqi; have e7 := (hSw.cell (p := ⟨bq, oq + x.2, none⟩) hbq').trans cqj; clear hSw; go_simp
          refine wpAnyH_take (i := 12) (v := .pointer (some ⟨bq, oq + x.1, none⟩)) rfl (by kernel_rfl) (by kernel_rfl) (by kernel_rfl) (fun _ _ _ h => h) (Or.inl ⟨by rfl, fun ww hSw => ?_⟩) hS ?_
          · have e1 := (hSw.cell (p := ⟨w.heap.size + 1, 0, none⟩) z1).trans c1.cell; have e2 := (hSw.cell (p := ⟨w.heap.size + 1 + 1, 0, none⟩) z2).trans c2.cell; have e3 := (hSw.cell (p := ⟨w.heap.size + 1 + 1 + 1 + 1 + 1 + 1, 0, none⟩) z6).trans hv.cell; have e4 := (hSw.cell (p := ⟨bx, ox + k * 2, none⟩) (World.block_lt_of_cell? _ _ cx)).trans cx; have e5 := (hSw.cell (p := ⟨bl, ol + k * 2, none⟩) (World.block_lt_of_cell? _ _ cl)).trans cl; have e6 := (hSw.cell (p := ⟨bq, oq + x.1, none⟩) hbq).trans cqi; have e7 := (hSw.cell (p := ⟨bq, oq + x.2, none⟩) hbq').trans cqj; clear hSw; go_simp
          refine wpAnyH_take (i := 13) (v := .int .i64 qi) rfl (by kernel_rfl) (by kernel_rfl) (by kernel_rfl) (fun _ _ _ h => h) (Or.inl ⟨by rfl, fun ww hSw => ?_⟩) hS ?_
          · have e1 := (hSw.cell (p := ⟨w.heap.size + 1, 0, none⟩) z1).trans c1.cell; have e2 := (hSw.cell (p := ⟨w.heap.size + 1 + 1, 0, none⟩) z2).trans c2.cell; have e3 := (hSw.cell (p := ⟨w.heap.size + 1 + 1 + 1 + 1 + 1 + 1, 0, none⟩) z6).trans hv.cell; have e4 := (hSw.cell (p := ⟨bx, ox + k * 2, none⟩) (World.block_lt_of_cell? _ _ cx)).trans cx; have e5 := (hSw.cell (p := ⟨bl, ol + k * 2, none⟩) (World.block_lt_of_cell? _ _ cl)).trans cl; have e6 := (hSw.cell (p := ⟨bq, oq + x.1, none⟩) hbq).trans cqi; have e7 := (hSw.cell (p := ⟨bq, oq + x.2, none⟩) hbq').trans cqj; clear hSw; go_simp
          refine wpAnyH_take (i := 14) (v := .int .i64 (mm * qi)) rfl (by kernel_rfl) (by kernel_rfl) (by kernel_rfl) (fun _ _ _ h => h) (Or.inl ⟨by rfl, fun ww hSw => ?_⟩) hS ?_
          · have e1 := (hSw.cell (p := ⟨w.heap.size + 1, 0, none⟩) z1).trans c1.cell; have e2 := (hSw.cell (p := ⟨w.heap.size + 1 + 1, 0, none⟩) z2).trans c2.cell; have e3 := (hSw.cell (p := ⟨w.heap.size + 1 + 1 + 1 + 1 + 1 + 1, 0, none⟩) z6).trans hv.cell; have e4 := (hSw.cell (p := ⟨bx, ox + k * 2, none⟩) (World.block_lt_of_cell? _ _ cx)).trans cx; have e5 := (hSw.cell (p := ⟨bl, ol + k * 2, none⟩) (World.block_lt_of_cell? _ _ cl)).trans cl; have e6 := (hSw.cell (p := ⟨bq, oq + x.1, none⟩) hbq).trans cqi; have e7 := (hSw.cell (p := ⟨bq, oq + x.2, none⟩) hbq').trans cqj; clear hSw; go_simp
          refine wpAnyH_take (i := 15) (v := .slice (some ⟨bq, oq, none⟩) Q.length cv) rfl (by kernel_rfl) (by kernel_rfl) (by kernel_rfl) (fun _ _ _ h => h) (Or.inl ⟨by rfl, fun ww hSw => ?_⟩) hS ?_
          · have e1 := (hSw.cell (p := ⟨w.heap.size + 1, 0, none⟩) z1).trans c1.cell; have e2 := (hSw.cell (p := ⟨w.heap.size + 1 + 1, 0, none⟩) z2).trans c2.cell; have e3 := (hSw.cell (p := ⟨w.heap.size + 1 + 1 + 1 + 1 + 1 + 1, 0, none⟩) z6).trans hv.cell; have e4 := (hSw.cell (p := ⟨bx, ox + k * 2, none⟩) (World.block_lt_of_cell? _ _ cx)).trans cx; have e5 := (hSw.cell (p := ⟨bl, ol + k * 2, none⟩) (World.block_lt_of_cell? _ _ cl)).trans cl; have e6 := (hSw.cell (p := ⟨bq, oq + x.1, none⟩) hbq).trans cqi; have e7 := (hSw.cell (p := ⟨bq, oq + x.2, none⟩) hbq').trans cqj; clear hSw; go_simp
          refine wpAnyH_take (i := 16) (v := .int .i64 x.2) rfl (by kernel_rfl) (by kernel_rfl) (by kernel_rfl) (fun _ _ _ h => h) (Or.inl ⟨by rfl, fun ww hSw => ?_⟩) hS ?_
          · have e1 := (hSw.cell (p := ⟨w.heap.size + 1, 0, none⟩) z1).trans c1.cell; have e2 := (hSw.cell (p := ⟨w.heap.size + 1 + 1, 0, none⟩) z2).trans c2.cell; have e3 := (hSw.cell (p := ⟨w.heap.size + 1 + 1 + 1 + 1 + 1 + 1, 0, none⟩) z6).trans hv.cell; have e4 := (hSw.cell (p := ⟨bx, ox + k * 2, none⟩) (World.block_lt_of_cell? _ _ cx)).trans cx; have e5 := (hSw.cell (p := ⟨bl, ol + k * 2, none⟩) (World.block_lt_of_cell? _ _ cl)).trans cl; have e6 := (hSw.cell (p := ⟨bq, oq + x.1, none⟩) hbq).trans cqi; have e7 := (hSw.cell (p := ⟨bq, oq + x.2, none⟩) hbq').trans cqj; clear hSw; go_simp
          refine wpAnyH_take (i := 17) (v := .pointer (some ⟨bq, oq + x.2, none⟩)) rfl (by kernel_rfl) (by kernel_rfl) (by kernel_rfl) (fun _ _ _ h => h) (Or.inl ⟨by rfl, fun ww hSw => ?_⟩) hS ?_
          · have e1 := (hSw.cell (p := ⟨w.heap.size + 1, 0, none⟩) z1).trans c1.cell; have e2 := (hSw.cell (p := ⟨w.heap.size + 1 + 1, 0, none⟩) z2).trans c2.cell; have e3 := (hSw.cell (p := ⟨w.heap.size + 1 + 1 + 1 + 1 + 1 + 1, 0, none⟩) z6).trans hv.cell; have e4 := (hSw.cell (p := ⟨bx, ox + k * 2, none⟩) (World.block_lt_of_cell? _ _ cx)).trans cx; have e5 := (hSw.cell (p := ⟨bl, ol + k * 2, none⟩) (World.block_lt_of_cell? _ _ cl)).trans cl; have e6 := (hSw.cell (p := ⟨bq, oq + x.1, none⟩) hbq).trans cqi; have e7 := (hSw.cell (p := ⟨bq, oq + x.2, none⟩) hbq').trans cqj; clear hSw; go_simp
          refine wpAnyH_take (i := 18) (v := .int .i64 qj) rfl (by kernel_rfl) (by kernel_rfl) (by kernel_rfl) (fun _ _ _ h => h) (Or.inl ⟨by rfl, fun ww hSw => ?_⟩) hS ?_
          · have e1 := (hSw.cell (p := ⟨w.heap.size + 1, 0, none⟩) z1).trans c1.cell; have e2 := (hSw.cell (p := ⟨w.heap.size + 1 + 1, 0, none⟩) z2).trans c2.cell; have e3 := (hSw.cell (p := ⟨w.heap.size + 1 + 1 + 1 + 1 + 1 + 1, 0, none⟩) z6).trans hv.cell; have e4 := (hSw.cell (p := ⟨bx, ox + k * 2, none⟩) (World.block_lt_of_cell? _ _ cx)).trans cx; have e5 := (hSw.cell (p := ⟨bl, ol + k * 2, none⟩) (World.block_lt_of_cell? _ _ cl)).trans cl; have e6 := (hSw.cell (p := ⟨bq, oq + x.1, none⟩) hbq).trans cqi; have e7 := (hSw.cell (p := ⟨bq, oq + x.2, none⟩) hbq').trans cqj; clear hSw; go_simp
          refine wpAnyH_take (i := 19) (v := .int .i64 (mm * qi * qj)) rfl (by kernel_rfl) (by kernel_rfl) (by kernel_rfl) (fun _ _ _ h => h) (Or.inl ⟨by rfl, fun ww hSw => ?_⟩) hS ?_
          · have e1 := (hSw.cell (p := ⟨w.heap.size + 1, 0, none⟩) z1).trans c1.cell; have e2 := (hSw.cell (p := ⟨w.heap.size + 1 + 1, 0, none⟩) z2).trans c2.cell; have e3 := (hSw.cell (p := ⟨w.heap.size + 1 + 1 + 1 + 1 + 1 + 1, 0, none⟩) z6).trans hv.cell; have e4 := (hSw.cell (p := ⟨bx, ox + k * 2, none⟩) (World.block_lt_of_cell? _ _ cx)).trans cx; have e5 := (hSw.cell (p := ⟨bl, ol + k * 2, none⟩) (World.block_lt_of_cell? _ _ cl)).trans cl; have e6 := (hSw.cell (p := ⟨bq, oq + x.1, none⟩) hbq).trans cqi; have e7 := (hSw.cell (p := ⟨bq, oq + x.2, none⟩) hbq').trans cqj; clear hSw; go_simp
          refine wpAnyH_take (i := 20) (v := .bool true) rfl (by kernel_rfl) (by kernel_rfl) (by kernel_rfl) (fun _ _ _ h => h) (Or.inl ⟨by rfl, fun ww hSw => ?_⟩) hS ?_
          · have e1 := (hSw.cell (p := ⟨w.heap.size + 1, 0, none⟩) z1).trans c1.cell; have e2 := (hSw.cell (p := ⟨w.heap.size + 1 + 1, 0, none⟩) z2).trans c2.cell; have e3 := (hSw.cell (p := ⟨w.heap.size + 1 + 1 + 1 + 1 + 1 + 1, 0, none⟩) z6).trans hv.cell; have e4 := (hSw.cell (p := ⟨bx, ox + k * 2, none⟩) (World.block_lt_of_cell? _ _ cx)).trans cx; have e5 := (hSw.cell (p := ⟨bl, ol + k * 2, none⟩) (World.block_lt_of_cell? _ _ cl)).trans cl; have e6 := (hSw.cell (p := ⟨bq, oq + x.1, none⟩) hbq).trans cqi; have e7 := (hSw.cell (p := ⟨bq, oq + x.2, none⟩) hbq').trans cqj; clear hSw; go_simp
          refine ⟨by kernel_rfl, ?_⟩
          refine aK7 _ _ ?_
          refine wpIn_act (a' := { tmps := #[.int .i64 N, .slice (some ⟨bx, ox, none⟩) m c, .slice (some ⟨bl, ol, none⟩) m c', .int .i64 f, .pointer (some ⟨w.heap.size, 0, none⟩), .pointer (some ⟨w.heap.size + 1, 0, none⟩), .pointer (some ⟨w.heap.size + 1 + 1, 0, none⟩), undef, .pointer (some ⟨w.heap.size + 1 + 1 + 1, 0, none⟩), .pointer (some ⟨w.heap.size + 1 + 1 + 1 + 1, 0, none⟩), .pointer (some ⟨w.heap.size + 1 + 1 + 1 + 1 + 1 + 1, 0, none⟩), .int .i64 N, u12, u13, .int .i64 x.1, .int .i64 x.2, .int .i64 k, .int .i64 f, .slice (some ⟨w.heap.size + 1 + 1 + 1 + 1 + 1, 0, none⟩) 1 1, .int .i64 N, .int .i64 N, .bool false, u22, u23, u24, u25, u26, u27, u28, u29, u30, u31, u32, u33, u34, u35, u36, u37, u38, u39, u40, u41, u42, u43, u44, u45, u46, u47, u48, u49, u50, u51, u52, u53, u54, u55, .int .i64 N, .func (.func 75) #[] #[.pointer (some ⟨wr.heap.size, 0, none⟩)], .int .i64 x.1, .int .i64 x.2, .int .i64 N, .int .i64 x.1, .int .i64 x.2, .int .i64 k, .slice (some ⟨bx, ox, none⟩) m c, .int .i64 k, .pointer (some ⟨bx, ox + k * 2, none⟩), .pointer (some ⟨bx, ox + k * 2, none⟩), .int .i64 wh, .slice (some ⟨bl, ol, none⟩) m c', .int .i64 k, .pointer (some ⟨bl, ol + k * 2, none⟩), .pointer (some ⟨bl, ol + k * 2, none⟩), .int .i64 mm, .slice (some ⟨bq, oq, none⟩) Q.length cv, .int .i64 x.1, .pointer (some ⟨bq, oq + x.1, none⟩), .int .i64 qi, .int .i64 (mm * qi), .slice (some ⟨bq, oq, none⟩) Q.length cv, .int .i64 x.2, .pointer (some ⟨bq, oq + x.2, none⟩), .int .i64 qj, .int .i64 (mm * qi * qj), .bool true, undef], defers := [] }) (by kernel_rfl) ?_
          clear aK7
          have g3 := c3.cell
          have g4 := c4.cell
          have gf3 := c3.frozen
          have gf4 := c4.frozen
          gi_wp2_with fail
          refine ⟨(((KeepsOthers.drew W).trans (KeepsOthers.setCell _ _ _)).trans (KeepsOthers.setCell _ _ _)).from _, rfl, HNE.out, (Boxed.set _ (show Boxed W.drew _ _ _ from c3)).other (by omega) _, Boxed.set _ ((show Boxed W.drew _ _ _ from c4).other (by omega) _), ?_⟩
          exact bS (p := ⟨w.heap.size + 1 + 1 + 1 + 1, 0, none⟩) (bS (p := ⟨w.heap.size + 1 + 1 + 1, 0, none⟩) (Below.drew hB) (by show w.heap.size ≤ w.heap.size + 1 + 1 + 1; omega) _) (by show w.heap.size ≤ w.heap.size + 1 + 1 + 1 + 1; omega) _
      case done =>
        rename_i K7 aK7
        rintro D W hD ⟨hfit, ⟨v, hv, hrow, -⟩, c0, c1, c2, c3, c4, cn, hB⟩ hK
        obtain ⟨Av, cv, rfl⟩ := own_form hrow
        simp only [HQN.out] at hv hrow
        have hKs : ((W.setCell ⟨w.heap.size + 1 + 1 + 1, 0, none⟩ (.slice Av N cv)).setCell ⟨w.heap.size + 1 + 1 + 1 + 1, 0, none⟩ (.bool true)).heap[D]? = some (.deferred (some [])) := by
          have d1 : w.heap.size + 1 + 1 + 1 + 1 + 1 + 1 < D := by have := h6lt; have := HS0.out; omega
          exact (heap_setCell_other _ _ _ _ (by show D ≠ w.heap.size + 1 + 1 + 1 + 1; omega)).trans ((heap_setCell_other _ _ _ _ (by show D ≠ w.heap.size + 1 + 1 + 1; omega)).trans hK)
        have h12 := hfit (1, 2) (List.mem_of_getElem? (Vm.bt_all N (by omega) 1 (by omega) 2 (by omega) (by omega)).2.2.2.1)
        obtain ⟨r1, r2⟩ := hQ.out.done HO.out h3 f1 HQN.out h12
        have R1 := Lib.hid r1
        have R2 := Lib.hid r2
        clear r1 r2 hfit h12
        have hc6 := hv.cell
        have g3 := c3.cell
        have g4 := c4.cell
        have gf3 := c3.frozen
        have gf4 := c4.frozen
        refine aK7 _ _ ?_
        clear aK7
        have k3 := (boxed_putS (D := D) (o' := .deferred none) ((Boxed.set (.slice Av N cv) c3).other (B' := w.heap.size + 1 + 1 + 1 + 1) (by omega) (.bool true)) hKs rfl).cell
        have k4 := (boxed_putS (D := D) (o' := .deferred none) (Boxed.set (.bool true) (c4.other (B' := w.heap.size + 1 + 1 + 1) (by omega) (.slice Av N cv))) hKs rfl).cell
        go_wp2_with fail
        refine ⟨by simp, .inl ⟨_, _, rfl, run_takeDeferred hKs, ?_⟩⟩
        refine ⟨.tuple #[.slice Av N cv, .bool true], by simp [results, Try.results78, go_sem, k3, k4], .inl ⟨R1.out, .slice Av N cv, rfl, ?_, ?_⟩⟩
        · have e := (own_less hrow (show w.heap.size ≤ w.heap.size + 1 + 1 + 1 + 1 + 1 by omega))
          have e1 := e.kept (grownBy_setCell' W (w.heap.size + 1 + 1 + 1) (.slice Av N cv)) (.inr (fun e' => by have := (hrow.lt _ e').1; omega))
          have e2 := e1.kept (grownBy_setCell' _ (w.heap.size + 1 + 1 + 1 + 1) (.bool true)) (.inr (fun e' => by have := (hrow.lt _ e').1; omega))
          rw [← R2.out]
          exact ownsRow_putObj e2 _ hKs rfl
        · exact (bS (bS hB (p := ⟨w.heap.size + 1 + 1 + 1, 0, none⟩) (by show w.heap.size ≤ w.heap.size + 1 + 1 + 1; omega) _) (p := ⟨w.heap.size + 1 + 1 + 1 + 1, 0, none⟩) (by show w.heap.size ≤ w.heap.size + 1 + 1 + 1 + 1; omega) _).trans (belowK_b (w := w) (Nat.le_refl _) _ D _ _ (Nat.le_trans hS0.below.size hD) hKs rfl rfl)
      case stop =>
        rintro D cc pre W hD _ ⟨rfl, hne, e3, e4, e6⟩ hK
        have f3 := (boxed_putS (o' := .deferred none) e3 hK rfl).cell
        have f4 := (boxed_putS (o' := .deferred none) e4 hK rfl).cell
        gi_wp2_with fail
        refine ⟨by simp, .inl ⟨_, _, rfl, run_takeDeferred hK, ?_⟩⟩
        refine ⟨.tuple #[.slice none 0 0, .bool false], by simp [results, Try.results78, go_sem, f3, f4], ?_⟩
        exact .inr ⟨hne, rfl, e6.trans (belowK_b (w := w) (Nat.le_refl _) W D _ _ (Nat.le_trans hS0.below.size hD) hK rfl rfl)⟩
end Go.Proofs.Ytmoeofclpnblmaa
