/- The program's FlagSolve. Written by flaggen.py. -/
import Derived.Test.YtmoeofclpnblmaaRowB
import Derived.Test.YtmoeofclpnblmaaVisB
import Derived.Deep.RegionHeld
namespace Go.Proofs.Ytmoeofclpnblmaa
open Go.RowKit

/-- The three captured variables. -/
def FB (N : Int) (A : Option Addr) (m c : Nat) (A' : Option Addr) (m' c' : Nat) (B : Nat) (w : World) : Prop :=
  w.heap[B]? = some (.cells #[.int .i64 N] 3 (0, 0)) ∧ w.heap[B + 1]? = some (.cells #[.slice A m c] 23 (0, 0)) ∧ w.heap[B + 2]? = some (.cells #[.slice A' m' c'] 23 (0, 0))
section
variable {N : Int} {A A' : Option Addr} {m c m' c' B : Nat} {w w' : World}
theorem FB.lt (h : FB N A m c A' m' c' B w) : B + 2 < w.heap.size := lt_of_block h.2.2
theorem FB.keep (h : FB N A m c A' m' c' B w) (hk : ∀ i, B ≤ i → i ≤ B + 2 → w'.heap[i]? = w.heap[i]?) : FB N A m c A' m' c' B w' :=
  ⟨(hk B (by omega) (by omega)).trans h.1, (hk (B + 1) (by omega) (by omega)).trans h.2.1, (hk (B + 2) (by omega) (by omega)).trans h.2.2⟩
theorem FB.after (h : FB N A m c A' m' c' B w) (hb : Below w.heap.size w w') : FB N A m c A' m' c' B w' := h.keep fun i _ h2 => hb.block i (by have := h.lt; omega)
theorem FB.other (h : FB N A m c A' m' c' B w) (a : Addr) (hne : B + 2 < a.block) (u : Value) : FB N A m c A' m' c' B (w.setCell a u) := h.keep fun i _ h2 => heap_setCell_other w a i u (by omega)
theorem FB.grown (h : FB N A m c A' m' c' B w) {g : Nat} (hg : w.grownBy w' (some g)) (hne : B + 2 < g) : FB N A m c A' m' c' B w' := h.keep fun i _ h2 => hg.block i (by have := h.lt; omega) (fun e => by injection e; omega)
theorem FB.cells (h : FB N A m c A' m' c' B w) : w.cell? ⟨B, 0, none⟩ = some (.int .i64 N) ∧ w.cell? ⟨B + 1, 0, none⟩ = some (.slice A m c) ∧ w.cell? ⟨B + 2, 0, none⟩ = some (.slice A' m' c') :=
  ⟨(cell_of_row w _ 0 _ _ _ h.1).trans rfl, (cell_of_row w _ 0 _ _ _ h.2.1).trans rfl, (cell_of_row w _ 0 _ _ _ h.2.2).trans rfl⟩
end
set_option maxRecDepth 100000 in
set_option maxHeartbeats 2000000 in
theorem turn1_any (A A' : Option Addr) (m c m' c' B : Nat) (N i j : Int) (L M : List (Int × Int)) (w : World) (hF : FB N A m c A' m' c' B w) (h : Rd w w.heap.size 2 A m c (cp L)) (h' : Rd w w.heap.size 2 A' m' c' (cp M))
    (hv : Vm.visB N L = true) (hv' : Vm.visB N M = true) (hi : 0 ≤ i ∧ i < N) (hj : 0 ≤ j ∧ j < N) (hne : i ≠ j) :
    Calls Try.prog 48 #[.int .i64 i, .int .i64 j, .pointer (some ⟨B, 0, none⟩), .pointer (some ⟨B + 1, 0, none⟩), .pointer (some ⟨B + 2, 0, none⟩)] w fun e w' => e = .returned (.int .i64 ((Vm.vget N L i j).2 - (Vm.vget N M i j).2)) ∧ Below w.heap.size w w' := by
  obtain ⟨c0, c1, c2⟩ := hF.cells
  have hlt := hF.lt
  have HV := Lib.hid hv
  have HV' := Lib.hid hv'
  obtain ⟨n, hn, hO⟩ := Vm.Ok.of hv
  subst hn
  have r1 := (hO.get hi hj hne).2
  have r2 : 0 ≤ (Vm.vget n M i j).2 ∧ (Vm.vget n M i j).2 < 360 := by
    obtain ⟨n', hn', hO'⟩ := Vm.Ok.of hv'
    obtain rfl : n = n' := by omega
    exact (hO'.get hi hj hne).2
  clear hv hv' hO
  obtain ⟨x, hx⟩ : ∃ x, Vm.vget n L i j = x := ⟨_, rfl⟩
  obtain ⟨y, hy⟩ : ∃ y, Vm.vget n M i j = y := ⟨_, rfl⟩
  rw [hx] at r1 ⊢
  rw [hy] at r2 ⊢
  have HX := Lib.hid hx
  have HY := Lib.hid hy
  clear hx hy
  have hw : IntKind.i64.wrap (x.2 - y.2) = x.2 - y.2 := IntWalk.i64_in _ (by omega)
  have hfd := field1
  go_enter Try.func48, Try.ntmps48
  go_wp2_with fail
  refine wp_region_held_drew (S := fun W' => Below w.heap.size w W') (by kernel_rfl) (Below.drew (b0 w)) (fun hS => ?_)
  refine wpAnyH_take (i := 0) (v := .int .i64 n) rfl (by kernel_rfl) (by kernel_rfl) (by kernel_rfl) (fun _ _ _ h => h) (Or.inl ⟨by rfl, fun ww hSw => ?_⟩) hS ?_
  · have k0 := (hSw.cell (p := ⟨B, 0, none⟩) (by show B < _; omega)).trans c0; have k1 := (hSw.cell (p := ⟨B + 1, 0, none⟩) (by show B + 1 < _; omega)).trans c1; have k2 := (hSw.cell (p := ⟨B + 2, 0, none⟩) (by show B + 2 < _; omega)).trans c2; have hw : IntKind.i64.wrap (x.2 - y.2) = x.2 - y.2 := IntWalk.i64_in _ (by omega); go_simp
  refine wpAnyH_take (i := 1) (v := .slice A m c) rfl (by kernel_rfl) (by kernel_rfl) (by kernel_rfl) (fun _ _ _ h => h) (Or.inl ⟨by rfl, fun ww hSw => ?_⟩) hS ?_
  · have k0 := (hSw.cell (p := ⟨B, 0, none⟩) (by show B < _; omega)).trans c0; have k1 := (hSw.cell (p := ⟨B + 1, 0, none⟩) (by show B + 1 < _; omega)).trans c1; have k2 := (hSw.cell (p := ⟨B + 2, 0, none⟩) (by show B + 2 < _; omega)).trans c2; have hw : IntKind.i64.wrap (x.2 - y.2) = x.2 - y.2 := IntWalk.i64_in _ (by omega); go_simp
  refine wpAnyH_take (i := 2) (v := .int .i64 i) rfl (by kernel_rfl) (by kernel_rfl) (by kernel_rfl) (fun _ _ _ h => h) (Or.inl ⟨by rfl, fun ww hSw => ?_⟩) hS ?_
  · have k0 := (hSw.cell (p := ⟨B, 0, none⟩) (by show B < _; omega)).trans c0; have k1 := (hSw.cell (p := ⟨B + 1, 0, none⟩) (by show B + 1 < _; omega)).trans c1; have k2 := (hSw.cell (p := ⟨B + 2, 0, none⟩) (by show B + 2 < _; omega)).trans c2; have hw : IntKind.i64.wrap (x.2 - y.2) = x.2 - y.2 := IntWalk.i64_in _ (by omega); go_simp
  refine wpAnyH_take (i := 3) (v := .int .i64 j) rfl (by kernel_rfl) (by kernel_rfl) (by kernel_rfl) (fun _ _ _ h => h) (Or.inl ⟨by rfl, fun ww hSw => ?_⟩) hS ?_
  · have k0 := (hSw.cell (p := ⟨B, 0, none⟩) (by show B < _; omega)).trans c0; have k1 := (hSw.cell (p := ⟨B + 1, 0, none⟩) (by show B + 1 < _; omega)).trans c1; have k2 := (hSw.cell (p := ⟨B + 2, 0, none⟩) (by show B + 2 < _; omega)).trans c2; have hw : IntKind.i64.wrap (x.2 - y.2) = x.2 - y.2 := IntWalk.i64_in _ (by omega); go_simp
  refine wpAnyH_take (i := 6) (v := .int .i64 n) rfl (by kernel_rfl) (by kernel_rfl) (by kernel_rfl) (fun _ _ _ h => h) (Or.inl ⟨by rfl, fun ww hSw => ?_⟩) hS ?_
  · have k0 := (hSw.cell (p := ⟨B, 0, none⟩) (by show B < _; omega)).trans c0; have k1 := (hSw.cell (p := ⟨B + 1, 0, none⟩) (by show B + 1 < _; omega)).trans c1; have k2 := (hSw.cell (p := ⟨B + 2, 0, none⟩) (by show B + 2 < _; omega)).trans c2; have hw : IntKind.i64.wrap (x.2 - y.2) = x.2 - y.2 := IntWalk.i64_in _ (by omega); go_simp
  refine wpAnyH_take (i := 7) (v := .slice A' m' c') rfl (by kernel_rfl) (by kernel_rfl) (by kernel_rfl) (fun _ _ _ h => h) (Or.inl ⟨by rfl, fun ww hSw => ?_⟩) hS ?_
  · have k0 := (hSw.cell (p := ⟨B, 0, none⟩) (by show B < _; omega)).trans c0; have k1 := (hSw.cell (p := ⟨B + 1, 0, none⟩) (by show B + 1 < _; omega)).trans c1; have k2 := (hSw.cell (p := ⟨B + 2, 0, none⟩) (by show B + 2 < _; omega)).trans c2; have hw : IntKind.i64.wrap (x.2 - y.2) = x.2 - y.2 := IntWalk.i64_in _ (by omega); go_simp
  refine wpAnyH_take (i := 8) (v := .int .i64 i) rfl (by kernel_rfl) (by kernel_rfl) (by kernel_rfl) (fun _ _ _ h => h) (Or.inl ⟨by rfl, fun ww hSw => ?_⟩) hS ?_
  · have k0 := (hSw.cell (p := ⟨B, 0, none⟩) (by show B < _; omega)).trans c0; have k1 := (hSw.cell (p := ⟨B + 1, 0, none⟩) (by show B + 1 < _; omega)).trans c1; have k2 := (hSw.cell (p := ⟨B + 2, 0, none⟩) (by show B + 2 < _; omega)).trans c2; have hw : IntKind.i64.wrap (x.2 - y.2) = x.2 - y.2 := IntWalk.i64_in _ (by omega); go_simp
  refine wpAnyH_take (i := 9) (v := .int .i64 j) rfl (by kernel_rfl) (by kernel_rfl) (by kernel_rfl) (fun _ _ _ h => h) (Or.inl ⟨by rfl, fun ww hSw => ?_⟩) hS ?_
  · have k0 := (hSw.cell (p := ⟨B, 0, none⟩) (by show B < _; omega)).trans c0; have k1 := (hSw.cell (p := ⟨B + 1, 0, none⟩) (by show B + 1 < _; omega)).trans c1; have k2 := (hSw.cell (p := ⟨B + 2, 0, none⟩) (by show B + 2 < _; omega)).trans c2; have hw : IntKind.i64.wrap (x.2 - y.2) = x.2 - y.2 := IntWalk.i64_in _ (by omega); go_simp
  refine wpAnyH_ready (rs := [4]) (by kernel_rfl) (by simp) ?_
  refine AllReadyH.cons rfl (fun K hK => ?_) AllReadyH.nil
  go_simp
  refine (visGet_any A m c n i j L _ (h.after hS) HV.out hi hj hne).mono ?_
  rintro e w1 ⟨rfl, hb1⟩
  rw [HX.out]
  unfold gv
  refine hK.out _ _ (bT hS hb1) (fun hS => ?_)
  clear hK K
  refine wpAnyH_take (i := 5) (v := .int .i64 x.2) rfl (by kernel_rfl) (by kernel_rfl) (by kernel_rfl) (fun _ _ _ h => h) (Or.inl ⟨by rfl, fun ww hSw => ?_⟩) hS ?_
  · have k0 := (hSw.cell (p := ⟨B, 0, none⟩) (by show B < _; omega)).trans c0; have k1 := (hSw.cell (p := ⟨B + 1, 0, none⟩) (by show B + 1 < _; omega)).trans c1; have k2 := (hSw.cell (p := ⟨B + 2, 0, none⟩) (by show B + 2 < _; omega)).trans c2; have hw : IntKind.i64.wrap (x.2 - y.2) = x.2 - y.2 := IntWalk.i64_in _ (by omega); go_simp
  refine wpAnyH_ready (rs := [10]) (by kernel_rfl) (by simp) ?_
  refine AllReadyH.cons rfl (fun K hK => ?_) AllReadyH.nil
  go_simp
  refine (visGet_any A' m' c' n i j M _ (h'.after hS) HV'.out hi hj hne).mono ?_
  rintro e w2 ⟨rfl, hb2⟩
  rw [HY.out]
  unfold gv
  refine hK.out _ _ (bT hS hb2) (fun hS => ?_)
  clear hK K
  refine wpAnyH_take (i := 11) (v := .int .i64 y.2) rfl (by kernel_rfl) (by kernel_rfl) (by kernel_rfl) (fun _ _ _ h => h) (Or.inl ⟨by rfl, fun ww hSw => ?_⟩) hS ?_
  · have k0 := (hSw.cell (p := ⟨B, 0, none⟩) (by show B < _; omega)).trans c0; have k1 := (hSw.cell (p := ⟨B + 1, 0, none⟩) (by show B + 1 < _; omega)).trans c1; have k2 := (hSw.cell (p := ⟨B + 2, 0, none⟩) (by show B + 2 < _; omega)).trans c2; have hw : IntKind.i64.wrap (x.2 - y.2) = x.2 - y.2 := IntWalk.i64_in _ (by omega); go_simp
  refine wpAnyH_take (i := 12) (v := .int .i64 (x.2 - y.2)) rfl (by kernel_rfl) (by kernel_rfl) (by kernel_rfl) (fun _ _ _ h => h) (Or.inl ⟨by rfl, fun ww hSw => ?_⟩) hS ?_
  · have k0 := (hSw.cell (p := ⟨B, 0, none⟩) (by show B < _; omega)).trans c0; have k1 := (hSw.cell (p := ⟨B + 1, 0, none⟩) (by show B + 1 < _; omega)).trans c1; have k2 := (hSw.cell (p := ⟨B + 2, 0, none⟩) (by show B + 2 < _; omega)).trans c2; have hw : IntKind.i64.wrap (x.2 - y.2) = x.2 - y.2 := IntWalk.i64_in _ (by omega); go_simp
  refine wpAnyH_ready (rs := [13]) (by kernel_rfl) (by simp) ?_
  refine AllReadyH.cons rfl (fun K hK => ?_) AllReadyH.nil
  go_simp
  refine hK.out _ _ hS (fun hS => ?_)
  clear hK K
  refine ⟨by kernel_rfl, ?_⟩
  clear hw
  go_wp2_with fail
  go_ret
  exact ⟨rfl, hS⟩
def FlagPost (n : Int) (L M : List (Int × Int)) (F : List Bool) (w : World) (e : Ending) (w' : World) : Prop := ∃ v ok P, e = .returned (.tuple #[v, .bool ok]) ∧ Vm.FlagRes n L M F ok P ∧ w'.ownsRow w.heap.size 3 1 v P.length (ci P) ∧ Below w.heap.size w w'
theorem FlagPost.no {n : Int} {L M : List (Int × Int)} {F : List Bool} {w w' : World} (h : Vm.FlagRes n L M F false []) (hB : Below w.heap.size w w') : FlagPost n L M F w (.returned (.tuple #[.slice none 0 0, .bool false])) w' :=
  ⟨_, _, [], rfl, h, World.ownsRow_nil _ _ _ _, hB⟩
/-- What FlagSolve keeps in memory. -/
structure Fl (N : Int) (A : Option Addr) (m c : Nat) (A' : Option Addr) (m' c' : Nat) (w : World) (bp bk : Nat) (K : List Bool) (P : List Int) (wr : World) : Prop where
  ri : RI wr bp P
  rb : RB wr bk K
  fb : FB N A m c A' m' c' w.heap.size wr
  below : Below w.heap.size w wr
  lo : w.heap.size + 2 < bp
  up : bp < bk
section
variable {N : Int} {A A' : Option Addr} {m c m' c' bp bk : Nat} {w wr w' : World} {K : List Bool} {P : List Int}
theorem Fl.after (h : Fl N A m c A' m' c' w bp bk K P wr) (hb : Below wr.heap.size wr w') : Fl N A m c A' m' c' w bp bk K P w' := ⟨h.ri.after hb, h.rb.after hb, h.fb.after hb, bT h.below hb, h.lo, h.up⟩
theorem Fl.alloc (h : Fl N A m c A' m' c' w bp bk K P wr) (o : Obj) : Fl N A m c A' m' c' w bp bk K P (wr.alloc o) := h.after (bA (b0 _) o)
theorem Fl.setK (h : Fl N A m c A' m' c' w bp bk K P wr) (j : Nat) (x : Bool) : Fl N A m c A' m' c' w bp bk (K.set j x) P (wr.setCell ⟨bk, j, none⟩ (.bool x)) := by
  have h1 := h.lo
  have h2 := h.up
  exact ⟨h.ri.other _ (by show bp ≠ bk; omega) _, h.rb.set j x, h.fb.other _ (by show _ < bk; omega) _, bS h.below (p := ⟨bk, j, none⟩) (by show _ ≤ bk; omega) _, h1, h2⟩
theorem Fl.setP (h : Fl N A m c A' m' c' w bp bk K P wr) (j : Nat) (x : Int) : Fl N A m c A' m' c' w bp bk K (P.set j x) (wr.setCell ⟨bp, j, none⟩ (.int .i64 x)) := by
  have h1 := h.lo
  have h2 := h.up
  exact ⟨h.ri.set j x, h.rb.other _ (by show bk ≠ bp; omega) _, h.fb.other _ (by show _ < bp; omega) _, bS h.below (p := ⟨bp, j, none⟩) (by show _ ≤ bp; omega) _, h1, h2⟩
theorem Fl.grown (h : Fl N A m c A' m' c' w bp bk K P wr) {g : Nat} (hg : wr.grownBy w' (some g)) (hb : bk < g) : Fl N A m c A' m' c' w bp bk K P w' := by
  have h1 := h.lo
  have h2 := h.up
  exact ⟨h.ri.grown hg (fun e => by injection e; omega), h.rb.grown hg (fun e => by injection e; omega), h.fb.grown hg (by omega), h.below.grown hg h.below.size (fun k hk => by injection hk; omega), h1, h2⟩
end
def nI (Q : List Nat) : List Int := Q.map fun x : Nat => (x : Int)
theorem nI_len (Q : List Nat) : (nI Q).length = Q.length := by simp [nI]
theorem nI_nil {Q : List Nat} (h : nI Q = []) : Q = [] := by simpa [nI] using h
theorem cell_new1 (w : World) (x : Value) (T : TypeId) (n : Nat) (hn : w.heap.size = n) : (w.alloc (.cells #[x] T)).cell? ⟨n, 0, none⟩ = some x := by
  subst hn
  rw [World.cell?_alloc_at _ _ _ 0 rfl]; rfl
theorem nI_app (Q : List Nat) (j : Nat) : nI (Q ++ [j]) = nI Q ++ [(j : Int)] := by simp [nI]
def f1 (N : Nat) (A : Option Addr) (m c : Nat) (A' : Option Addr) (m' c' : Nat) (L M : List (Int × Int)) (F : List Bool) (w : World) (bp bk : Nat) (v : Value) (wr : World) : Prop :=
  ∃ (s : Nat) (K : List Bool) (P : List Int), s ≤ N ∧ v = .int .i64 s ∧ Vm.St N (Vm.fe N F) (Vm.ft N L M) K P [] ∧ (∀ i, i < s → Vm.kf K i = true) ∧ Fl N A m c A' m' c' w bp bk K P wr
def f2 (N : Nat) (A : Option Addr) (m c : Nat) (A' : Option Addr) (m' c' : Nat) (L M : List (Int × Int)) (F : List Bool) (w : World) (bp bk s k : Nat) (v : Value) (wr : World) : Prop :=
  ∃ (K : List Bool) (P : List Int) (Q : List Nat), Vm.St N (Vm.fe N F) (Vm.ft N L M) K P Q ∧ (Vm.left N K Q ≤ k ∧ Vm.left N K Q ≤ N + 1) ∧ (∀ i, i < s + 1 → Vm.kf K i = true) ∧ Qv wr (bk + 1) v (nI Q) ∧ Fl N A m c A' m' c' w bp bk K P wr
def f3 (N : Nat) (A : Option Addr) (m c : Nat) (A' : Option Addr) (m' c' : Nat) (L M : List (Int × Int)) (F : List Bool) (w : World) (bp bk s k i : Nat) (v jv : Value) (wr : World) : Prop :=
  ∃ (K : List Bool) (P : List Int) (R : List Nat) (g off cc j : Nat), j ≤ N ∧ jv = .int .i64 j ∧ v = .slice (some ⟨g, off, none⟩) (R.length + 1) cc ∧ Vm.St N (Vm.fe N F) (Vm.ft N L M) K P (i :: R) ∧ Vm.Told (Vm.fe N F) (Vm.ft N L M) K P i j ∧
    (Vm.left N K (i :: R) ≤ k ∧ Vm.left N K (i :: R) ≤ N + 1) ∧ (∀ i, i < s + 1 → Vm.kf K i = true) ∧ Qu wr (bk + 1) g off cc (nI (i :: R)) ∧ Fl N A m c A' m' c' w bp bk K P wr
/-- Nothing is at hand but what the walk needs. -/
theorem fe_same (N : Nat) (F : List Bool) (i : Nat) : Vm.fe N F i i = false := by simp [Vm.fe]
theorem fe_flag {N : Nat} {F : List Bool} {i j k : Nat} (hi : i < N) (hj : j < N) (hne : i ≠ j) (hk : Vm.bidx N i j = k) (hl : k < F.length) : Vm.fe N F i j = !F[k] := by
  simp [Vm.fe, hi, hj, hne, hk, hl]
theorem q_bd {n : Nat} {K : List Bool} {Q : List Nat} {k : Nat} (h : Vm.left n K Q ≤ k) : Q.length ≤ k := by unfold Vm.left at h; omega
set_option maxRecDepth 100000 in
set_option maxHeartbeats 16000000 in
theorem FlagSolve_ok (A A' A'' : Option Addr) (m c m' c' m'' c'' N : Nat) (L M : List (Int × Int)) (F : List Bool) (w : World) (h : Rd w w.heap.size 2 A m c (cp L)) (h' : Rd w w.heap.size 2 A' m' c' (cp M)) (h'' : Rd w w.heap.size 1 A'' m'' c'' (cbo F))
    (hL : Vm.Ok N L) (hM : Vm.Ok N M) (hF : F.length = N * (N - 1) / 2) : Calls Try.prog 14 #[.int .i64 N, .slice A m c, .slice A' m' c', .slice A'' m'' c''] w (FlagPost N L M F w) := by
  have N2 := hL.lo
  have N7 := hL.hi
  have hbm := Vm.bmany_nat N ((Vm.manyB_iff _).2 (by omega))
  have hml := h''.len
  rw [cbo_length, Nat.mul_one] at hml
  subst hml
  have hcap'' := h''.cap
  have hmost'' := h''.most
  have hd1 : ((F.length : Int) != Vm.bmany N) = false := by rw [hbm, hF]; simp
  have HVL := Lib.hid hL.to
  have HVM := Lib.hid hM.to
  have HN := Lib.hid (Vm.flag_net F hL hM)
  have HF := Lib.hid hF
  have HL := Lib.hid hL
  have HM := Lib.hid hM
  have hmkI := fun w => makeI w N (by omega)
  have hmkB := fun w => makeB w N (by omega)
  clear hL hM hF hbm
  go_enter Try.func14, Try.ntmps14
  go_wp2_with fail
  refine (VisValid_any _ _ _ N L _ (h.after (bA (bA (bA (b0 w) _) _) _))).mono ?_
  rintro e w1 ⟨rfl, hB1⟩
  rw [HVL.out]
  have hfb0 : FB N A m c A' m' c' w.heap.size (((w.alloc (.cells #[.int .i64 N] 3)).alloc (.cells #[.slice A m c] 23)).alloc (.cells #[.slice A' m' c'] 23)) := by
    refine ⟨?_, ?_, ?_⟩
    · exact (Below.heap_alloc _ _ _ (by simp; omega)).trans ((Below.heap_alloc _ _ _ (by simp)).trans (heap_alloc_new w _))
    · exact (Below.heap_alloc _ _ _ (by simp)).trans (by have := heap_alloc_new (w.alloc (.cells #[.int .i64 N] 3)) (.cells #[.slice A m c] 23); simpa using this)
    · have := heap_alloc_new ((w.alloc (.cells #[.int .i64 N] 3)).alloc (.cells #[.slice A m c] 23)) (.cells #[.slice A' m' c'] 23); simpa using this
  have hBB0 := bA (bA (bA (b0 w) (.cells #[.int .i64 N] 3)) (.cells #[.slice A m c] 23)) (.cells #[.slice A' m' c'] 23)
  have hfb1 := hfb0.after hB1
  have hBB1 := bT hBB0 hB1
  clear hfb0 hBB0 hB1
  obtain ⟨k0, k1, k2⟩ := hfb1.cells
  go_wp2_with fail
  refine (VisValid_any _ _ _ N M _ (h'.after hBB1)).mono ?_
  rintro e w2 ⟨rfl, hB2⟩
  rw [HVM.out]
  have hfb2 := hfb1.after hB2
  have hBB2 := bT hBB1 hB2
  clear hfb1 hBB1 hB2 k0 k1 k2
  obtain ⟨k0, k1, k2⟩ := hfb2.cells
  have hlt2 := hfb2.lt
  have z0 : w.heap.size < w2.heap.size := by omega
  go_wp2_with (go_at_call 40; refine (BaseMany_any _ _).mono ?_; rintro e w' ⟨rfl, rfl⟩)
  clear k0 k1 k2 hmkI hmkB hd1 z0
  have hFl0 : Fl N A m c A' m' c' w w2.heap.size (w2.heap.size + 1) (List.replicate N false) (List.replicate N 0) ((w2.alloc (.cells (ci (List.replicate N 0)).toArray 3)).alloc (.cells (cbo (List.replicate N false)).toArray 4)) := by
    refine ⟨(new_RI w2 _).after (bA (b0 _) _), ?_, (hfb2.after (bA (b0 _) _)).after (bA (b0 _) _), bA (bA hBB2 _) _, hlt2, by omega⟩
    have := new_RB (w2.alloc (.cells (ci (List.replicate N 0)).toArray 3)) (List.replicate N false)
    simpa using this
  obtain ⟨W0, hW0⟩ : ∃ W, ((w2.alloc (.cells (ci (List.replicate N 0)).toArray 3)).alloc (.cells (cbo (List.replicate N false)).toArray 4)) = W := ⟨_, rfl⟩
  obtain ⟨bp, hbp⟩ : ∃ b, w2.heap.size = b := ⟨_, rfl⟩
  rw [hW0, hbp] at hFl0
  rw [hW0, hbp]
  obtain ⟨bk, hbk⟩ : ∃ b, bp + 1 = b := ⟨_, rfl⟩
  rw [hbk] at hFl0 ⊢
  clear hW0 hfb2 hBB2 hbk
  clear hlt2 hbp
  go_loopw [41] (fun v wr => f1 N A m c A' m' c' L M F w bp bk v wr) (fun v _ => N - (intOf v).toNat)
  case atStart => exact ⟨0, _, _, Nat.zero_le _, rfl, Vm.St.start _ _ _, fun i hi => absurd hi (by omega), hFl0⟩
  case round =>
    clear hFl0
    obtain ⟨s, K, P, hs, rfl, hSt, hall, hFl⟩ := hrel
    by_cases hsn : s < N
    · have hblo := hFl.lo
      have hbup := hFl.up
      obtain ⟨k0, k1, k2⟩ := hFl.fb.cells
      have ck := hFl.rb.cell (j := s) (by rw [hSt.kl]; exact hsn)
      have fk := hFl.rb.frozen s
      cases hks : Vm.kf K s
      · rw [hks] at ck
        have hSt2 := hSt.root hsn (hSt.least HN.out hall hks) hks
        have hall2 : ∀ i, i < s + 1 → Vm.kf (K.set s true) i = true := fun i hi => by
          rw [Vm.kf_set (by rw [hSt.kl]; exact hsn)]
          split
          · rfl
          · exact hall i (by omega)
        have HS2 := Lib.hid hSt2
        have HA2 := Lib.hid hall2
        clear hSt hall hSt2 hall2 hks
        have hszr := hFl.rb.lt
        go_wp2_with fail
        go_loopg [14] (N + 1) (fun k v wr2 => f2 N A m c A' m' c' L M F w bp bk s k v wr2)
        case atStart => exact ⟨_, _, [s], HS2.out, ⟨Vm.left_bd _ _ _, Vm.left_bd _ _ _⟩, HA2.out, .inr ⟨(s : Int), [], _, 0, 1, rfl, rfl, by have := Qu.one (base := bk + 1) (wr.setCell ⟨bk, s, none⟩ (.bool true)) (s : Int) (by simp; omega); simpa [nI] using this⟩, (hFl.setK s true).alloc _⟩
        case round =>
          clear HS2 HA2 k0 k1 k2 ck fk hszr
          clear hFl
          obtain ⟨K, P, Q, hSt, hleft, hall, hq, hFl⟩ := hrel
          have hblo := hFl.lo
          have hbup := hFl.up
          obtain ⟨k0, k1, k2⟩ := hFl.fb.cells
          rcases hq with ⟨hQ0, A0, c0, rfl⟩ | ⟨x, Q', g, off, cc, hQ, rfl, hqu⟩
          · have hQ1 := nI_nil hQ0
            subst hQ1
            have HS3 := Lib.hid hSt
            have HA3 := Lib.hid hall
            clear hQ0 hleft hSt hall
            go_wp2_with fail
            go_roundw
            case rel => exact ⟨s + 1, K, P, by omega, by go_num, HS3.out, HA3.out, hFl⟩
            case measure => simp [intOf]; omega
          · cases Q with
            | nil => simp [nI] at hQ
            | cons i R =>
              obtain ⟨e1, e2⟩ : x = (i : Int) ∧ Q' = nI R := by
                have : nI (i :: R) = (i : Int) :: nI R := rfl
                rw [this] at hQ
                injection hQ with a b
                exact ⟨a.symm, b.symm⟩
              subst e1 e2
              rw [nI_len]
              have hki := hSt.queue i (by simp)
              have hin : i < N := by have := Vm.kf_lt hki; rw [hSt.kl] at this; exact this
              have cq : wr.cell? ⟨g, off, none⟩ = some (.int .i64 i) := by have := hqu.cell (j := 0) (by simp [nI]); simpa [nI, Vm.pf] using this
              have HS3 := Lib.hid hSt
              have HA3 := Lib.hid hall
              have HL3 := Lib.hid hleft
              clear hQ hki hSt hall hleft
              go_wp2_with fail
              go_loopw [14, 62] (fun v jv wr3 => f3 N A m c A' m' c' L M F w bp bk s gk i v jv wr3) (fun _ jv _ => N - (intOf jv).toNat)
              case atStart => exact ⟨K, P, R, g, off, cc, 0, Nat.zero_le _, rfl, rfl, HS3.out, Vm.Told.zero _ _ _ _ _, HL3.out, HA3.out, hqu, hFl⟩
              case round =>
                clear HS3 HA3 HL3 cq hqu k0 k1 k2
                clear hFl
                obtain ⟨K, P, R, g, off, cc, j, hj, rfl, rfl, hSt0, hto0, hleft0, hall0, hqu, hFl⟩ := hrel
                have hSt := Lib.hid hSt0
                have hto := Lib.hid hto0
                have hleft := Lib.hid hleft0
                have hall := Lib.hid hall0
                clear hSt0 hto0 hleft0 hall0
                by_cases hjN : j < N
                · obtain ⟨k0, k1, k2⟩ := hFl.fb.cells
                  by_cases hij : i = j
                  · have hd : ((i : Int) == (j : Int)) = true := by simp [hij]
                    have ht2 := Lib.hid (hto.out.skip (by rw [← hij]; exact fe_same N F i))
                    clear hij
                    go_wp2_with fail
                    go_roundw
                    case rel => exact ⟨K, P, R, g, off, cc, j + 1, by omega, by go_num, rfl, hSt.out, ht2.out, hleft.out, hall.out, hqu, hFl⟩
                    case measure => simp [intOf]; omega
                  · have hd : ((i : Int) == (j : Int)) = false := by simp; omega
                    obtain ⟨b1, b2, _⟩ := Vm.bidx_bd (n := N) (i := i) (j := j) (by omega) (by omega) (by omega) (by omega)
                    have hbm := Vm.bmany_nat N ((Vm.manyB_iff _).2 (by omega))
                    obtain ⟨q, hq⟩ := Vm.nat_of b1
                    have hql : q < F.length := by rw [HF.out]; omega
                    have hfe0 := fe_flag hin hjN hij hq hql
                    have HQ := Lib.hid hq
                    obtain ⟨b4, off4, rfl, hb4, hcf⟩ := (h''.below hFl.below).bool_at hql
                    obtain ⟨f, hf⟩ : ∃ f, F[q] = f := ⟨_, rfl⟩
                    rw [hf] at hcf hfe0
                    clear hf b1 b2 hbm hq
                    cases f
                    · have hfe := Lib.hid (show Vm.fe N F i j = true by rw [hfe0]; rfl)
                      have gL := (HL.out.get (i := i) (j := j) (by omega) (by omega) (by omega)).2
                      have gM := (HM.out.get (i := i) (j := j) (by omega) (by omega) (by omega)).2
                      have cp := hFl.ri.cell (j := i) (by rw [hSt.out.pl]; exact hin)
                      have rp := hSt.out.rng i
                      have hbpl := hFl.ri.lt
                      have HFT := Lib.hid (show Vm.ft N L M i j = (Vm.vget N L i j).2 - (Vm.vget N M i j).2 from rfl)
                      obtain ⟨p, hp⟩ : ∃ p, Vm.pf P i = p := ⟨_, rfl⟩
                      rw [hp] at cp rp
                      obtain ⟨d, hdd⟩ : ∃ d, (Vm.vget N L i j).2 - (Vm.vget N M i j).2 = d := ⟨_, rfl⟩
                      have rd1 : -360 < d := by omega
                      have rd2 : d < 360 := by omega
                      obtain ⟨ph, hph⟩ : ∃ ph, (p + d) % 360 = ph := ⟨_, rfl⟩
                      have HPH2 := Lib.hid (show (Vm.pf P i + Vm.ft N L M i j) % 360 = ph by rw [hp, HFT.out, hdd]; exact hph)
                      have HPH := Lib.hid hph
                      have HD := Lib.hid hdd
                      obtain ⟨rp1, rp2⟩ := rp
                      have hw : IntKind.i64.wrap (p + d) = p + d := IntWalk.i64_in _ (by omega)
                      clear hfe0 gL gM hp hdd hph HFT
                      go_wp2_with (go_at_call 50; refine (baseAt_any _ _ _ _ (by omega) (by omega) (by omega) (by omega) (by omega) (by omega)).mono ?_; rintro e w' ⟨rfl, rfl⟩; rw [HQ.out])
                      refine wp_region_held_drew (S := fun W' => Below wr.heap.size wr W') (by kernel_rfl) (Below.drew (b0 wr)) (fun hS => ?_)
                      refine wpAnyH_take (i := 0) (v := .slice (some ⟨bp, 0, none⟩) N N) rfl (by kernel_rfl) (by kernel_rfl) (by kernel_rfl) (fun _ _ _ h => h) (Or.inl ⟨by rfl, fun ww hSw => ?_⟩) hS ?_
                      · have e1 := (hSw.cell (p := ⟨bp, i, none⟩) hbpl).trans cp; have hw : IntKind.i64.wrap (p + d) = p + d := IntWalk.i64_in _ (by omega); go_simp
                      refine wpAnyH_take (i := 1) (v := .int .i64 i) rfl (by kernel_rfl) (by kernel_rfl) (by kernel_rfl) (fun _ _ _ h => h) (Or.inl ⟨by rfl, fun ww hSw => ?_⟩) hS ?_
                      · have e1 := (hSw.cell (p := ⟨bp, i, none⟩) hbpl).trans cp; have hw : IntKind.i64.wrap (p + d) = p + d := IntWalk.i64_in _ (by omega); go_simp
                      refine wpAnyH_take (i := 2) (v := .pointer (some ⟨bp, i, none⟩)) rfl (by kernel_rfl) (by kernel_rfl) (by kernel_rfl) (fun _ _ _ h => h) (Or.inl ⟨by rfl, fun ww hSw => ?_⟩) hS ?_
                      · have e1 := (hSw.cell (p := ⟨bp, i, none⟩) hbpl).trans cp; have hw : IntKind.i64.wrap (p + d) = p + d := IntWalk.i64_in _ (by omega); go_simp
                      refine wpAnyH_take (i := 3) (v := .int .i64 p) rfl (by kernel_rfl) (by kernel_rfl) (by kernel_rfl) (fun _ _ _ h => h) (Or.inl ⟨by rfl, fun ww hSw => ?_⟩) hS ?_
                      · have e1 := (hSw.cell (p := ⟨bp, i, none⟩) hbpl).trans cp; have hw : IntKind.i64.wrap (p + d) = p + d := IntWalk.i64_in _ (by omega); go_simp
                      refine wpAnyH_take (i := 4) (v := .func (.func 48) #[] #[.pointer (some ⟨w.heap.size, 0, none⟩), .pointer (some ⟨w.heap.size + 1, 0, none⟩), .pointer (some ⟨w.heap.size + 1 + 1, 0, none⟩)]) rfl (by kernel_rfl) (by kernel_rfl) (by kernel_rfl) (fun _ _ _ h => h) (Or.inl ⟨by rfl, fun ww hSw => ?_⟩) hS ?_
                      · have e1 := (hSw.cell (p := ⟨bp, i, none⟩) hbpl).trans cp; have hw : IntKind.i64.wrap (p + d) = p + d := IntWalk.i64_in _ (by omega); go_simp
                      refine wpAnyH_take (i := 5) (v := .int .i64 i) rfl (by kernel_rfl) (by kernel_rfl) (by kernel_rfl) (fun _ _ _ h => h) (Or.inl ⟨by rfl, fun ww hSw => ?_⟩) hS ?_
                      · have e1 := (hSw.cell (p := ⟨bp, i, none⟩) hbpl).trans cp; have hw : IntKind.i64.wrap (p + d) = p + d := IntWalk.i64_in _ (by omega); go_simp
                      refine wpAnyH_take (i := 6) (v := .int .i64 j) rfl (by kernel_rfl) (by kernel_rfl) (by kernel_rfl) (fun _ _ _ h => h) (Or.inl ⟨by rfl, fun ww hSw => ?_⟩) hS ?_
                      · have e1 := (hSw.cell (p := ⟨bp, i, none⟩) hbpl).trans cp; have hw : IntKind.i64.wrap (p + d) = p + d := IntWalk.i64_in _ (by omega); go_simp
                      refine wpAnyH_ready (rs := [7]) (by kernel_rfl) (by simp) ?_
                      refine AllReadyH.cons rfl (fun K hK => ?_) AllReadyH.nil
                      go_simp
                      refine (turn1_any A A' m c m' c' w.heap.size N i j L M _ (hFl.fb.after hS) ((h.below (bT hFl.below hS)).more (bT hFl.below hS).size) ((h'.below (bT hFl.below hS)).more (bT hFl.below hS).size) HVL.out HVM.out (by omega) (by omega) (by omega)).mono ?_
                      rintro e w5 ⟨rfl, hb5⟩
                      rw [HD.out]
                      refine hK.out _ _ (bT hS hb5) (fun hS => ?_)
                      clear hK K
                      refine wpAnyH_take (i := 8) (v := .int .i64 (p + d)) rfl (by kernel_rfl) (by kernel_rfl) (by kernel_rfl) (fun _ _ _ h => h) (Or.inl ⟨by rfl, fun ww hSw => ?_⟩) hS ?_
                      · have e1 := (hSw.cell (p := ⟨bp, i, none⟩) hbpl).trans cp; have hw : IntKind.i64.wrap (p + d) = p + d := IntWalk.i64_in _ (by omega); go_simp
                      refine wpAnyH_ready (rs := [9]) (by kernel_rfl) (by simp) ?_
                      refine AllReadyH.cons rfl (fun K hK => ?_) AllReadyH.nil
                      go_simp
                      refine (PhaseOf_any _ _).mono ?_
                      rintro e w' ⟨rfl, rfl⟩
                      rw [HPH.out]
                      refine hK.out _ _ hS (fun hS => ?_)
                      clear hK K
                      refine wpAnyH_ready (rs := [10]) (by kernel_rfl) (by simp) ?_
                      refine AllReadyH.cons rfl (fun K hK => ?_) AllReadyH.nil
                      go_simp
                      refine hK.out _ _ hS (fun hS => ?_)
                      clear hK K
                      refine ⟨by kernel_rfl, ?_⟩
                      have hF5 := hFl.after hS
                      have hq5 := hqu.after hS
                      clear hFl hqu k0 k1 k2 cp hcf hw hb4
                      have ck := hF5.rb.cell (j := j) (by rw [hSt.out.kl]; exact hjN)
                      have cp := hF5.ri.cell (j := j) (by rw [hSt.out.pl]; exact hjN)
                      have fk := hF5.rb.frozen j
                      have fp := hF5.ri.frozen j
                      have hblo := hF5.lo
                      have hbup := hF5.up
                      have hqlo := hq5.lo
                      have hbkl := hF5.rb.lt
                      have ne1 : ¬ bp = bk := by omega
                      have ne2 : ¬ bk = bp := by omega
                      obtain ⟨k0, k1, k2⟩ := hF5.fb.cells
                      clear hS
                      obtain ⟨x, hx⟩ : ∃ x, Vm.pf P j = x := ⟨_, rfl⟩
                      rw [hx] at cp
                      have HX := Lib.hid hx
                      clear hx
                      cases hkj : Vm.kf K j
                      · rw [hkj] at ck
                        have HKJ := Lib.hid hkj
                        clear hkj
                        have hq6 := ((hq5.other ⟨bk, j, none⟩ (by show g ≠ bk; omega) (.bool true)).other ⟨bp, j, none⟩ (by show g ≠ bp; omega) (.int .i64 ph)).after (bA (b0 _) (.cells #[.int .i64 j] 3))
                        have hF6 := ((hF5.setK j true).setP j ph).alloc (.cells #[.int .i64 j] 3)
                        have hQl : (nI (i :: R)).length ≤ 1000 := by rw [nI_len]; have := q_bd hleft.out.2; omega
                        go_wp2_with (at_builtin; refine wpList_append_qu _ rfl _ _ rfl hq6 ?hb hQl rfl (by simp [nI]) _ 1 (j : Int) rfl ?hy rfl ?_)
                        case hb => simp; omega
                        case hy => exact cell_new1 _ _ _ _ (by simp)
                        intro g' off' cc' w9 hq9 hg9
                        have hF9 := hF6.grown hg9 (by omega)
                        have hSt9 := hSt.out.more (hSt.out.queue i (by simp)) hjN hfe.out HKJ.out
                        have hto9 := hto.out.more (by rw [hSt.out.kl]; exact hjN) (by rw [hSt.out.pl]; exact hjN) (hSt.out.queue i (by simp)) HKJ.out
                        have hl9 := Vm.left_more (Q := i :: R) hSt.out.kl hjN HKJ.out
                        rw [HPH2.out] at hSt9 hto9
                        have hall9 : ∀ q, q < s + 1 → Vm.kf (K.set j true) q = true := fun q hq => by
                          rw [Vm.kf_set (by rw [hSt.out.kl]; exact hjN)]
                          split
                          · rfl
                          · exact hall.out q hq
                        have HS9 := Lib.hid hSt9
                        have HT9 := Lib.hid hto9
                        have HL9 := Lib.hid hl9
                        have HA9 := Lib.hid hall9
                        clear hSt9 hto9 hl9 hall9 hq6 hF6 hq5 hF5 ck cp fk fp k0 k1 k2
                        go_wp2_with fail
                        go_roundw
                        case rel => exact ⟨K.set j true, P.set j ph, R ++ [j], g', off', cc', j + 1, by omega, by go_num, by simp, HS9.out, HT9.out, ⟨Nat.le_trans HL9.out hleft.out.1, Nat.le_trans HL9.out hleft.out.2⟩, HA9.out, by rw [← nI_app] at hq9; exact hq9, hF9⟩
                        case measure => simp [intOf]; omega
                      · rw [hkj] at ck
                        have HKJ := Lib.hid hkj
                        clear hkj
                        by_cases hxe : x = ph
                        · have hd5 : (x != ph) = false := by simp [hxe]
                          have ht2 := Lib.hid (hto.out.same HKJ.out (HX.out.trans (hxe.trans HPH2.out.symm)))
                          clear hxe
                          go_wp2_with fail
                          go_roundw
                          case rel => exact ⟨K, P, R, g, off, cc, j + 1, by omega, by go_num, rfl, hSt.out, ht2.out, hleft.out, hall.out, hq5, hF5⟩
                          case measure => simp [intOf]; omega
                        · have hd5 : (x != ph) = true := by simp [hxe]
                          have hbad : Hid (Vm.FlagRes N L M F false []) := Vm.res_no (hSt.out.bad HN.out (hSt.out.queue i (by simp)) HKJ.out hfe.out (by rw [HX.out, HPH2.out]; exact hxe))
                          clear hxe
                          go_wp2_with fail
                          go_ret2
                          exact FlagPost.no hbad.out hF5.below
                    · have ht2 := Lib.hid (hto.out.skip hfe0)
                      clear hfe0
                      go_wp2_with (go_at_call 50; refine (baseAt_any _ _ _ _ (by omega) (by omega) (by omega) (by omega) (by omega) (by omega)).mono ?_; rintro e w' ⟨rfl, rfl⟩; rw [HQ.out])
                      go_roundw
                      case rel => exact ⟨K, P, R, g, off, cc, j + 1, by omega, by go_num, rfl, hSt.out, ht2.out, hleft.out, hall.out, hqu, hFl⟩
                      case measure => simp [intOf]; omega
                · have hje : j = N := by omega
                  subst hje
                  have hql := hqu.le
                  rw [nI_len, List.length_cons] at hql
                  have hsl := slice_tail wr (g := g) (off := off) (c := cc) (n := R.length) hql hqu.most
                  have hpop := Vm.left_pop j K i R
                  have hl9 : Vm.left j K R ≤ gk - 1 ∧ Vm.left j K R ≤ j + 1 ∧ gk - 1 < gk := by have := hleft.out; omega
                  have HL9 := Lib.hid hl9
                  have hqv : Qv wr (bk + 1) (.slice (some ⟨g, if cc = 1 then off else off + 1, none⟩) R.length (cc - 1)) (nI R) := by have := Qv.tail (Q := nI R) (x := (i : Int)) hqu; rwa [nI_len] at this
                  obtain ⟨o2, ho2⟩ : ∃ o, (if cc = 1 then off else off + 1) = o := ⟨_, rfl⟩
                  rw [ho2] at hsl hqv
                  clear ho2 hpop hl9 hql
                  go_wp2_with fail
                  go_roundg (gk - 1)
                  case measure => exact HL9.out.2.2
                  case rel => exact ⟨K, P, R, hSt.out.pop HN.out hto.out, ⟨HL9.out.1, HL9.out.2.1⟩, hall.out, hqv, hFl⟩
      · rw [hks] at ck
        have hall2 : Hid (∀ i, i < s + 1 → Vm.kf K i = true) := fun i hi => by
          by_cases e : i = s
          · subst e; exact hks
          · exact hall i (by omega)
        clear hall hks
        go_wp2_with fail
        go_roundw
        case rel => exact ⟨s + 1, K, P, by omega, by go_num, hSt, hall2.out, hFl⟩
        case measure => simp [intOf]; omega
    · have hse : s = N := by omega
      subst hse
      have hres : Hid (Vm.FlagRes s L M F true P) := Vm.res_yes HL.out HM.out HF.out hSt.pl (hSt.all hall).1 ((hSt.all hall).2 HN.out)
      have hown : wr.ownsRow w.heap.size 3 1 (.slice (some ⟨bp, 0, none⟩) s s) P.length (ci P) := by
        have := hFl.ri.own (base := w.heap.size) (by have := hFl.lo; omega) (by rw [hSt.pl]; omega)
        rw [hSt.pl] at this ⊢
        exact this
      have H : Hid (FlagPost s L M F w (.returned (.tuple #[.slice (some ⟨bp, 0, none⟩) s s, .bool true])) wr) := ⟨_, _, P, rfl, hres.out, hown, hFl.below⟩
      clear hres hown
      clear hFl hSt hall
      go_wp2_with fail
      go_ret2
      exact H.out

end Go.Proofs.Ytmoeofclpnblmaa
