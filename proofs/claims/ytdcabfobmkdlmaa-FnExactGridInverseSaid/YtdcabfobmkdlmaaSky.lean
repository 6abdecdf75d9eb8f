/- Plain arithmetic of skies and grids: sums of sixteen terms, powers of i, the transform and its inverse, folding. No program in sight. -/
namespace Go.Proofs.Ytdcabfobmkdlmaa.Sky

abbrev G := Int × Int
def gadd (a b : G) : G := (a.1 + b.1, a.2 + b.2)
def gmul (a b : G) : G := (a.1 * b.1 - a.2 * b.2, a.1 * b.2 + a.2 * b.1)
def unit (k : Int) : G := if k % 4 = 0 then (1, 0) else if k % 4 = 1 then (0, 1) else if k % 4 = 2 then (-1, 0) else (0, -1)
def ex (i j : Nat) : Int := ((i % 4 * (j % 4) + i / 4 * (j / 4) : Nat) : Int)

/-- The sum of f 0 .. f (n - 1). -/
def S : Nat → (Nat → Int) → Int
  | 0, _ => 0
  | n + 1, f => S n f + f n

theorem S_congr (n : Nat) (f g : Nat → Int) (h : ∀ k, k < n → f k = g k) : S n f = S n g := by
  induction n with
  | zero => rfl
  | succ n ih => simp only [S]; rw [ih (fun k hk => h k (by omega)), h n (by omega)]
theorem S_add (n : Nat) (f g : Nat → Int) : S n (fun k => f k + g k) = S n f + S n g := by
  induction n with
  | zero => rfl
  | succ n ih => simp only [S]; rw [ih]; omega
theorem S_sub (n : Nat) (f g : Nat → Int) : S n (fun k => f k - g k) = S n f - S n g := by
  induction n with
  | zero => rfl
  | succ n ih => simp only [S]; rw [ih]; omega
theorem S_mul (n : Nat) (c : Int) (f : Nat → Int) : S n (fun k => c * f k) = c * S n f := by
  induction n with
  | zero => simp [S]
  | succ n ih => simp only [S]; rw [ih, Int.mul_add]
theorem S_zero (n : Nat) : S n (fun _ => 0) = 0 := by
  induction n with
  | zero => rfl
  | succ n ih => simp only [S]; rw [ih]; rfl
theorem S_comm (n m : Nat) (f : Nat → Nat → Int) : S n (fun i => S m (fun j => f i j)) = S m (fun j => S n (fun i => f i j)) := by
  induction n with
  | zero => simp only [S]; rw [S_zero]
  | succ n ih => simp only [S]; rw [ih, S_add]
theorem S_bound (n : Nat) (f : Nat → Int) (B : Int) (h : ∀ k, k < n → -B ≤ f k ∧ f k ≤ B) : -(n * B) ≤ S n f ∧ S n f ≤ n * B := by
  induction n with
  | zero => simp [S]
  | succ n ih =>
    have h1 := ih (fun k hk => h k (by omega))
    have h2 := h n (by omega)
    simp only [S]
    have e : ((n + 1 : Nat) : Int) * B = n * B + B := by rw [Int.natCast_add, Int.add_mul]; simp
    rw [e]; omega
/-- One term alone. -/
theorem S_single (n j : Nat) (hj : j < n) (f : Nat → Int) (h : ∀ k, k < n → k ≠ j → f k = 0) : S n f = f j := by
  induction n with
  | zero => omega
  | succ n ih =>
    simp only [S]
    by_cases e : j = n
    · subst e
      rw [S_congr j f (fun _ => 0) (fun k hk => h k (by omega) (by omega)), S_zero]; omega
    · rw [ih (by omega) (fun k hk hne => h k (by omega) hne), h n (by omega) (by omega)]; omega

theorem unit_cases (k : Int) : unit k = (1, 0) ∨ unit k = (0, 1) ∨ unit k = (-1, 0) ∨ unit k = (0, -1) := by
  unfold unit
  split
  · simp
  · split
    · simp
    · split <;> simp
theorem unit_mod (a b : Int) (h : a % 4 = b % 4) : unit a = unit b := by unfold unit; rw [h]
theorem unit_add (a b : Int) : unit (a + b) = gmul (unit a) (unit b) := by
  have ha : a % 4 = 0 ∨ a % 4 = 1 ∨ a % 4 = 2 ∨ a % 4 = 3 := by omega
  have hb : b % 4 = 0 ∨ b % 4 = 1 ∨ b % 4 = 2 ∨ b % 4 = 3 := by omega
  rcases ha with ha | ha | ha | ha <;> rcases hb with hb | hb | hb | hb <;>
    (have e : (a + b) % 4 = (a % 4 + b % 4) % 4 := by omega
     rw [ha, hb] at e
     simp only [unit, ha, hb, e, gmul]; decide)
theorem unit_bound (k : Int) : -1 ≤ (unit k).1 ∧ (unit k).1 ≤ 1 ∧ -1 ≤ (unit k).2 ∧ (unit k).2 ≤ 1 := by
  rcases unit_cases k with h | h | h | h <;> rw [h] <;> simp
theorem gmul_unit_bound (a : G) (k B : Int) (h1 : -B ≤ a.1) (h2 : a.1 ≤ B) (h3 : -B ≤ a.2) (h4 : a.2 ≤ B) :
    -B ≤ (gmul a (unit k)).1 ∧ (gmul a (unit k)).1 ≤ B ∧ -B ≤ (gmul a (unit k)).2 ∧ (gmul a (unit k)).2 ≤ B := by
  rcases unit_cases k with h | h | h | h <;> rw [h] <;> simp [gmul] <;> omega

/-- The transform of a grid: with sign 1 the transform, with sign -1 sixteen times its inverse. Its first n terms. -/
def Tn (n : Nat) (g : Nat → G) (s : Int) (i : Nat) : G :=
  (S n fun k => (gmul (g k) (unit (s * ex i k))).1, S n fun k => (gmul (g k) (unit (s * ex i k))).2)
def T (g : Nat → G) (s : Int) (i : Nat) : G := Tn 16 g s i

theorem Tn_succ (n : Nat) (g : Nat → G) (s : Int) (i : Nat) : Tn (n + 1) g s i = gadd (Tn n g s i) (gmul (g n) (unit (s * ex i n))) := rfl
theorem Tn_bound (n : Nat) (g : Nat → G) (s : Int) (i : Nat) (B : Int) (h : ∀ k, k < n → -B ≤ (g k).1 ∧ (g k).1 ≤ B ∧ -B ≤ (g k).2 ∧ (g k).2 ≤ B) :
    -(n * B) ≤ (Tn n g s i).1 ∧ (Tn n g s i).1 ≤ n * B ∧ -(n * B) ≤ (Tn n g s i).2 ∧ (Tn n g s i).2 ≤ n * B := by
  have b1 := S_bound n (fun k => (gmul (g k) (unit (s * ex i k))).1) B (fun k hk => by
    obtain ⟨a, b, c, d⟩ := h k hk; have := gmul_unit_bound (g k) (s * ex i k) B a b c d; exact ⟨this.1, this.2.1⟩)
  have b2 := S_bound n (fun k => (gmul (g k) (unit (s * ex i k))).2) B (fun k hk => by
    obtain ⟨a, b, c, d⟩ := h k hk; have := gmul_unit_bound (g k) (s * ex i k) B a b c d; exact ⟨this.2.2.1, this.2.2.2⟩)
  exact ⟨b1.1, b1.2, b2.1, b2.2⟩
theorem Tn_congr (n : Nat) (g h : Nat → G) (s : Int) (i : Nat) (e : ∀ k, k < n → g k = h k) : Tn n g s i = Tn n h s i :=
  Prod.ext (S_congr n _ _ (fun k hk => by simp only [e k hk])) (S_congr n _ _ (fun k hk => by simp only [e k hk]))
theorem mul_S1 (n : Nat) (f h : Nat → Int) (a b : Int) : S n f * a - S n h * b = S n (fun k => f k * a - h k * b) := by
  rw [S_sub, Int.mul_comm, Int.mul_comm _ b, ← S_mul, ← S_mul]
  congr 1 <;> exact S_congr _ _ _ (fun k _ => by rw [Int.mul_comm])
theorem mul_S2 (n : Nat) (f h : Nat → Int) (a b : Int) : S n f * a + S n h * b = S n (fun k => f k * a + h k * b) := by
  rw [S_add, Int.mul_comm, Int.mul_comm _ b, ← S_mul, ← S_mul]
  congr 1 <;> exact S_congr _ _ _ (fun k _ => by rw [Int.mul_comm])
theorem gmul_T (g : Nat → G) (s : Int) (t : Nat) (u : G) :
    (gmul (T g s t) u).1 = S 16 (fun k => (gmul (gmul (g k) (unit (s * ex t k))) u).1) ∧ (gmul (T g s t) u).2 = S 16 (fun k => (gmul (gmul (g k) (unit (s * ex t k))) u).2) :=
  ⟨mul_S1 16 _ _ _ _, mul_S2 16 _ _ _ _⟩

/-- The powers of i are orthogonal. -/
theorem orth : ∀ a b : Fin 16, S 16 (fun t => (gmul (unit (ex t a)) (unit (-1 * ex b t))).1) = (if a = b then 16 else 0) ∧ S 16 (fun t => (gmul (unit (ex t a)) (unit (-1 * ex b t))).2) = 0 ∧
    S 16 (fun t => (gmul (unit (-1 * ex t a)) (unit (ex b t))).1) = (if a = b then 16 else 0) ∧ S 16 (fun t => (gmul (unit (-1 * ex t a)) (unit (ex b t))).2) = 0 := by
  decide +kernel
theorem orth1 (s : Int) (hs : s = 1 ∨ s = -1) (a b : Nat) (ha : a < 16) (hb : b < 16) :
    S 16 (fun t => (gmul (unit (s * ex t a)) (unit (-s * ex b t))).1) = (if a = b then 16 else 0) ∧ S 16 (fun t => (gmul (unit (s * ex t a)) (unit (-s * ex b t))).2) = 0 := by
  have h := orth ⟨a, ha⟩ ⟨b, hb⟩
  simp only [Fin.mk.injEq] at h
  rcases hs with rfl | rfl
  · simp only [Int.one_mul]; exact ⟨h.1, h.2.1⟩
  · simp only [Int.neg_neg, Int.one_mul]; exact ⟨h.2.2.1, h.2.2.2⟩

/-- Back and forth: sixteen times what it was. -/
theorem T_T (g : Nat → G) (s : Int) (hs : s = 1 ∨ s = -1) (x : Nat) (hx : x < 16) : T (fun t => T g s t) (-s) x = (16 * (g x).1, 16 * (g x).2) := by
  have key1 : ∀ t k, (gmul (gmul (g k) (unit (s * ex t k))) (unit (-s * ex x t))).1 = (g k).1 * (gmul (unit (s * ex t k)) (unit (-s * ex x t))).1 - (g k).2 * (gmul (unit (s * ex t k)) (unit (-s * ex x t))).2 := by
    intro t k; simp only [gmul]; grind
  have key2 : ∀ t k, (gmul (gmul (g k) (unit (s * ex t k))) (unit (-s * ex x t))).2 = (g k).1 * (gmul (unit (s * ex t k)) (unit (-s * ex x t))).2 + (g k).2 * (gmul (unit (s * ex t k)) (unit (-s * ex x t))).1 := by
    intro t k; simp only [gmul]; grind
  have push1 : ∀ t, (gmul (T g s t) (unit (-s * ex x t))).1 = S 16 (fun k => (gmul (gmul (g k) (unit (s * ex t k))) (unit (-s * ex x t))).1) := fun t => (gmul_T g s t _).1
  have push2 : ∀ t, (gmul (T g s t) (unit (-s * ex x t))).2 = S 16 (fun k => (gmul (gmul (g k) (unit (s * ex t k))) (unit (-s * ex x t))).2) := fun t => (gmul_T g s t _).2
  have o := fun k hk => orth1 s hs k x hk hx
  have e1 : S 16 (fun t => (gmul (T g s t) (unit (-s * ex x t))).1) = 16 * (g x).1 := by
    rw [S_congr 16 _ _ (fun t _ => push1 t), S_comm]
    rw [S_congr 16 _ (fun k => (g k).1 * (if k = x then 16 else 0)) (fun k hk => ?_)]
    · rw [S_single 16 x hx _ (fun k _ hne => by simp [hne])]; simp; omega
    · rw [S_congr 16 _ _ (fun t _ => key1 t k), S_sub, S_mul, S_mul, (o k hk).1, (o k hk).2]; omega
  have e2 : S 16 (fun t => (gmul (T g s t) (unit (-s * ex x t))).2) = 16 * (g x).2 := by
    rw [S_congr 16 _ _ (fun t _ => push2 t), S_comm]
    rw [S_congr 16 _ (fun k => (g k).2 * (if k = x then 16 else 0)) (fun k hk => ?_)]
    · rw [S_single 16 x hx _ (fun k _ hne => by simp [hne])]; simp; omega
    · rw [S_congr 16 _ _ (fun t _ => key2 t k), S_add, S_mul, S_mul, (o k hk).1, (o k hk).2]; omega
  show (_, _) = _
  rw [e1, e2]

/-- The cell in which the sum of two cells' coordinates lies. -/
def at2 (k l : Nat) : Nat := 4 * ((k / 4 + l / 4) % 4) + (k % 4 + l % 4) % 4
theorem at2_lt (k l : Nat) : at2 k l < 16 := by unfold at2; omega
theorem at2_inj (k l m : Nat) (hl : l < 16) (hm : m < 16) (h : at2 k l = at2 k m) : l = m := by unfold at2 at h; omega
theorem unit_at2 : ∀ u k l : Fin 16, unit (1 * ex u (at2 k l)) = gmul (unit (ex u k)) (unit (ex u l)) := by decide +kernel
theorem unit_at2' (u k l : Nat) (hu : u < 16) (hk : k < 16) (hl : l < 16) : unit (1 * ex u (at2 k l)) = gmul (unit (ex u k)) (unit (ex u l)) := unit_at2 ⟨u, hu⟩ ⟨k, hk⟩ ⟨l, hl⟩

/-- A sky moved by the cell k: its first n cells. -/
def shn (n : Nat) (b : Nat → Int) (k : Nat) (x : Nat) : Int := S n fun l => if at2 k l = x then b l else 0
def foldn (n : Nat) (a b : Nat → Int) (x : Nat) : Int := S n fun k => a k * shn 16 b k x
def real (s : Nat → Int) : Nat → G := fun k => (s k, 0)

theorem T_sh (b : Nat → Int) (k u : Nat) (hk : k < 16) (hu : u < 16) : T (real (shn 16 b k)) 1 u = gmul (T (real b) 1 u) (unit (ex u k)) := by
  have pick : ∀ (c : Nat → Int), S 16 (fun x => shn 16 b k x * c x) = S 16 (fun l => b l * c (at2 k l)) := by
    intro c
    have h1 : ∀ x, shn 16 b k x * c x = S 16 (fun l => if at2 k l = x then b l * c x else 0) := by
      intro x
      unfold shn
      rw [Int.mul_comm, ← S_mul]
      exact S_congr _ _ _ (fun l _ => by split <;> simp [Int.mul_comm])
    rw [S_congr 16 _ _ (fun x _ => h1 x), S_comm]
    refine S_congr _ _ _ (fun l _ => ?_)
    rw [S_single 16 (at2 k l) (at2_lt k l) _ (fun x _ hne => by rw [if_neg (fun e => hne e.symm)]), if_pos rfl]
  have e1 : ∀ l, l < 16 → b l * (unit (1 * ex u (at2 k l))).1 = (gmul (gmul (b l, 0) (unit (1 * ex u l))) (unit (ex u k))).1 := by
    intro l hl; rw [unit_at2' u k l hu hk hl, Int.one_mul]; simp only [gmul]; grind
  have e2 : ∀ l, l < 16 → b l * (unit (1 * ex u (at2 k l))).2 = (gmul (gmul (b l, 0) (unit (1 * ex u l))) (unit (ex u k))).2 := by
    intro l hl; rw [unit_at2' u k l hu hk hl, Int.one_mul]; simp only [gmul]; grind
  have l1 : (T (real (shn 16 b k)) 1 u).1 = S 16 (fun x => shn 16 b k x * (unit (1 * ex u x)).1) := S_congr _ _ _ (fun x _ => by simp [real, gmul])
  have l2 : (T (real (shn 16 b k)) 1 u).2 = S 16 (fun x => shn 16 b k x * (unit (1 * ex u x)).2) := S_congr _ _ _ (fun x _ => by simp [real, gmul])
  refine Prod.ext ?_ ?_
  · rw [l1, pick, S_congr 16 _ _ (fun l hl => e1 l hl)]
    exact (gmul_T (real b) 1 u _).1.symm
  · rw [l2, pick, S_congr 16 _ _ (fun l hl => e2 l hl)]
    exact (gmul_T (real b) 1 u _).2.symm

theorem T_lin (n : Nat) (a : Nat → Int) (f : Nat → Nat → Int) (u : Nat) :
    T (real fun x => S n fun k => a k * f k x) 1 u = (S n fun k => a k * (T (real (f k)) 1 u).1, S n fun k => a k * (T (real (f k)) 1 u).2) := by
  have h1 : ∀ (c : Nat → Int), S 16 (fun x => (S n fun k => a k * f k x) * c x) = S n (fun k => a k * S 16 (fun x => f k x * c x)) := by
    intro c
    rw [S_congr 16 _ (fun x => S n fun k => a k * (f k x * c x)) (fun x _ => by
      rw [Int.mul_comm, ← S_mul]; exact S_congr _ _ _ (fun k _ => by rw [Int.mul_left_comm, Int.mul_comm (c x)])), S_comm]
    exact S_congr _ _ _ (fun k _ => S_mul _ _ _)
  refine Prod.ext ?_ ?_
  · show S 16 _ = _
    rw [S_congr 16 _ (fun x => (S n fun k => a k * f k x) * (unit (1 * ex u x)).1) (fun x _ => by simp [real, gmul]), h1]
    refine S_congr _ _ _ (fun k _ => ?_)
    congr 1
    exact S_congr _ _ _ (fun x _ => by simp [real, gmul])
  · show S 16 _ = _
    rw [S_congr 16 _ (fun x => (S n fun k => a k * f k x) * (unit (1 * ex u x)).2) (fun x _ => by simp [real, gmul]), h1]
    refine S_congr _ _ _ (fun k _ => ?_)
    congr 1
    exact S_congr _ _ _ (fun x _ => by simp [real, gmul])

/-- Folding multiplies transforms. -/
theorem T_fold (a b : Nat → Int) (u : Nat) (hu : u < 16) : T (real (foldn 16 a b)) 1 u = gmul (T (real a) 1 u) (T (real b) 1 u) := by
  have h := T_lin 16 a (fun k => shn 16 b k) u
  show T (real fun x => S 16 fun k => a k * shn 16 b k x) 1 u = _
  rw [h]
  have e1 : ∀ k, k < 16 → a k * (T (real (shn 16 b k)) 1 u).1 = (T (real b) 1 u).1 * (gmul (real a k) (unit (1 * ex u k))).1 - (T (real b) 1 u).2 * (gmul (real a k) (unit (1 * ex u k))).2 := by
    intro k hk; rw [T_sh b k u hk hu, Int.one_mul]; simp only [gmul, real]; grind
  have e2 : ∀ k, k < 16 → a k * (T (real (shn 16 b k)) 1 u).2 = (T (real b) 1 u).2 * (gmul (real a k) (unit (1 * ex u k))).1 + (T (real b) 1 u).1 * (gmul (real a k) (unit (1 * ex u k))).2 := by
    intro k hk; rw [T_sh b k u hk hu, Int.one_mul]; simp only [gmul, real]; grind
  refine Prod.ext ?_ ?_
  · show S 16 _ = (T (real a) 1 u).1 * _ - (T (real a) 1 u).2 * _
    rw [S_congr 16 _ _ (fun k hk => e1 k hk), S_sub, S_mul, S_mul, Int.mul_comm (T (real a) 1 u).1, Int.mul_comm (T (real a) 1 u).2]; rfl
  · show S 16 _ = (T (real a) 1 u).1 * _ + (T (real a) 1 u).2 * _
    rw [S_congr 16 _ _ (fun k hk => e2 k hk), S_add, S_mul, S_mul, Int.mul_comm (T (real a) 1 u).1, Int.mul_comm (T (real a) 1 u).2]; rfl

end Go.Proofs.Ytdcabfobmkdlmaa.Sky
