/- Plain: the prime of layer 5, and its powers; no program is in sight. -/
namespace Go.Proofs.Ythgjhipfgdlbnaa
set_option linter.unusedSimpArgs false
set_option linter.unusedVariables false
def IsP (p : Nat) : Prop := 2 ≤ p ∧ ∀ d, d ∣ p → d = 1 ∨ d = p
theorem euclid {p a b : Nat} (hp : IsP p) (h : p ∣ a * b) : p ∣ a ∨ p ∣ b := by
  rcases hp.2 (Nat.gcd p a) (Nat.gcd_dvd_left p a) with h1 | h1
  · exact .inr (Nat.Coprime.dvd_of_dvd_mul_left h1 h)
  · exact .inl (by rw [← h1]; exact Nat.gcd_dvd_right p a)
theorem has_prime (m : Nat) (h : 2 ≤ m) : ∃ q, IsP q ∧ q ∣ m := by
  induction m using Nat.strongRecOn with
  | _ m ih =>
    by_cases hm : ∃ d, d ∣ m ∧ d ≠ 1 ∧ d ≠ m
    · obtain ⟨d, hd, h1, h2⟩ := hm
      have hle := Nat.le_of_dvd (by omega) hd
      have h0 : d ≠ 0 := fun e => by rw [e] at hd; have := Nat.eq_zero_of_zero_dvd hd; omega
      obtain ⟨q, hq, hqd⟩ := ih d (by omega) (by omega)
      exact ⟨q, hq, Nat.dvd_trans hqd hd⟩
    · refine ⟨m, ⟨h, fun d hd => ?_⟩, Nat.dvd_refl m⟩
      by_cases h1 : d = 1
      · exact .inl h1
      · by_cases h2 : d = m
        · exact .inr h2
        · exact absurd ⟨d, hd, h1, h2⟩ hm
def mulL : List Nat → Nat
  | [] => 1
  | q :: l => q * mulL l
theorem in_list {q : Nat} (hq : IsP q) : ∀ (l : List Nat), (∀ x ∈ l, IsP x) → q ∣ mulL l → q ∈ l
  | [], _, h => by have := Nat.le_of_dvd (by unfold mulL; omega) h; unfold mulL at this; have := hq.1; omega
  | x :: l, hl, h => by
    rcases euclid hq h with h1 | h1
    · rcases (hl x (by simp)).2 q h1 with h2 | h2
      · have := hq.1; omega
      · simp [h2]
    · simp [in_list hq l (fun y hy => hl y (by simp [hy])) h1]
theorem pigeon : ∀ (N : Nat) (f : Nat → Nat), (∀ i, i < N + 1 → f i < N) → ∃ i j, i < j ∧ j < N + 1 ∧ f i = f j
  | 0, f, h => absurd (h 0 (by omega)) (by omega)
  | N + 1, f, h => by
    by_cases hv : ∃ i, i < N + 1 ∧ f i = f (N + 1)
    · obtain ⟨i, hi, e⟩ := hv
      exact ⟨i, N + 1, hi, by omega, e⟩
    · have hne : ∀ i, i < N + 1 → f i ≠ f (N + 1) := fun i hi e => hv ⟨i, hi, e⟩
      have hlast := h (N + 1) (by omega)
      obtain ⟨i, j, hij, hj, e⟩ := pigeon N (fun i => if f i = N then f (N + 1) else f i) (fun i hi => by
        have h1 := h i (by omega)
        have h2 := hne i hi
        try dsimp only
        split <;> omega)
      refine ⟨i, j, hij, by omega, ?_⟩
      have hi1 := hne i (by omega)
      have hj1 := hne j hj
      try dsimp only at e
      split at e <;> split at e <;> omega
theorem onto (N : Nat) (f : Nat → Nat) (h : ∀ i, i < N → f i < N) (inj : ∀ i j, i < j → j < N → f i ≠ f j) (y : Nat) (hy : y < N) : ∃ i, i < N ∧ f i = y := by
  refine Classical.byContradiction fun hno => ?_
  have hn : ∀ i, i < N → f i ≠ y := fun i hi e => hno ⟨i, hi, e⟩
  obtain ⟨M, rfl⟩ : ∃ M, N = M + 1 := ⟨N - 1, by omega⟩
  obtain ⟨i, j, hij, hj, e⟩ := pigeon M (fun i => if f i = M then y else f i) (fun i hi => by
    have h1 := h i hi
    have h2 := hn i hi
    try dsimp only
    split <;> omega)
  have hi1 := hn i (by omega)
  have hj1 := hn j hj
  refine inj i j hij hj ?_
  try dsimp only at e
  split at e <;> split at e <;> omega

theorem pow_one_mod {n g k : Nat} (h : g ^ k % n = 1 % n) (t : Nat) : g ^ (k * t) % n = 1 % n := by
  rw [Nat.pow_mul, Nat.pow_mod, h, ← Nat.pow_mod, Nat.one_pow]
theorem cancel {n g N x y : Nat} (hN : 0 < N) (h : g ^ N % n = 1 % n) (k : Nat) (e : g ^ k * x % n = g ^ k * y % n) : x % n = y % n := by
  have key : ∀ z, (g ^ (N - 1)) ^ k * (g ^ k * z) % n = z % n := by
    intro z
    rw [← Nat.mul_assoc, ← Nat.mul_pow, ← Nat.pow_succ, show (N - 1).succ = N from by omega, Nat.mul_mod, Nat.pow_mod, h, ← Nat.pow_mod, Nat.one_pow, ← Nat.mul_mod, Nat.one_mul]
  rw [← key x, ← key y, Nat.mul_mod, e, ← Nat.mul_mod]
/-- A least one. -/
theorem least {p : Nat → Prop} : ∀ k, p k → ∃ e, p e ∧ ∀ d, d < e → ¬ p d := by
  intro k
  induction k using Nat.strongRecOn with
  | _ k ih =>
    intro hk
    by_cases hm : ∃ d, d < k ∧ p d
    · obtain ⟨d, hd, hp⟩ := hm
      exact ih d hd hp
    · exact ⟨k, hk, fun d hd hp => hm ⟨d, hd, hp⟩⟩
theorem no_less {n g N : Nat} {qs : List Nat} (hN : 0 < N) (hqs : ∀ q ∈ qs, IsP q) (hm : mulL qs = N) (h1 : g ^ N % n = 1 % n) (h2 : ∀ q ∈ qs, g ^ (N / q) % n ≠ 1 % n) (k : Nat) (hk0 : 0 < k) (hk : k < N) : g ^ k % n ≠ 1 % n := by
  intro hk1
  obtain ⟨e, ⟨he0, he1⟩, hmin⟩ := least (p := fun e => 0 < e ∧ g ^ e % n = 1 % n) k ⟨hk0, hk1⟩
  have hek : e ≤ k := by
    rcases Nat.lt_or_ge k e with h | h
    · exact absurd ⟨hk0, hk1⟩ (hmin k h)
    · exact h
  have hdv : e ∣ N := by
    have hr := Nat.div_add_mod N e
    have hl := Nat.mod_lt N he0
    have h3 : g ^ (N % e) % n = 1 % n := by
      have h4 := pow_one_mod he1 (N / e)
      rw [← hr, Nat.pow_add, Nat.mul_mod, h4, ← Nat.mul_mod, Nat.one_mul] at h1
      exact h1
    rcases Nat.eq_zero_or_pos (N % e) with h | h
    · exact Nat.dvd_of_mod_eq_zero h
    · exact absurd ⟨h, h3⟩ (hmin _ hl)
  obtain ⟨t, ht⟩ := hdv
  have ht2 : 2 ≤ t := by
    rcases Nat.lt_or_ge t 2 with h | h
    · have : t = 0 ∨ t = 1 := by omega
      rcases this with rfl | rfl <;> omega
    · exact h
  obtain ⟨q, hq, hqt⟩ := has_prime t ht2
  have hqm : q ∈ qs := in_list hq qs hqs (by rw [hm, ht]; exact Nat.dvd_trans hqt (Nat.dvd_mul_left t e))
  obtain ⟨s, hs⟩ := hqt
  refine h2 q hqm ?_
  have : N / q = e * s := by
    rw [ht, hs, Nat.mul_left_comm]
    exact Nat.mul_div_cancel_left _ (by have := hq.1; omega)
  rw [this]
  exact pow_one_mod he1 s

/-- **A prime, and its powers.** -/
theorem lucas_of {n g : Nat} {qs : List Nat} (hn : 2 ≤ n) (hqs : ∀ q ∈ qs, IsP q) (hm : mulL qs = n - 1) (h1 : g ^ (n - 1) % n = 1) (h2 : ∀ q ∈ qs, g ^ ((n - 1) / q) % n ≠ 1) :
    IsP n ∧ ∀ a, a % n ≠ 0 → a ^ (n - 1) % n = 1 := by
  have e1 : 1 % n = 1 := Nat.mod_eq_of_lt (by omega)
  have hN : 0 < n - 1 := by omega
  have h1' : g ^ (n - 1) % n = 1 % n := by rw [h1, e1]
  have hless := no_less hN hqs hm h1' (fun q hq => by rw [e1]; exact h2 q hq)
  have all : ∀ a, a % n ≠ 0 → a ^ (n - 1) % n = 1 := by
    intro a ha
    have hlt := Nat.mod_lt a (show n > 0 by omega)
    have nz : ∀ i, g ^ i % n ≠ 0 := by
      intro i hi
      have h3 := pow_one_mod h1' i
      rw [Nat.mul_comm, Nat.pow_mul, Nat.pow_mod, hi, e1] at h3
      rw [Nat.zero_pow hN, Nat.zero_mod] at h3
      omega
    obtain ⟨k, _, hk⟩ := onto (n - 1) (fun i => g ^ i % n - 1) (fun i hi => by
        have := nz i
        have := Nat.mod_lt (g ^ i) (show n > 0 by omega)
        try dsimp only
        omega) (fun i j hij hj e => by
        have a1 := nz i
        have a2 := nz j
        try dsimp only at e
        have e3 : g ^ i * 1 % n = g ^ i * g ^ (j - i) % n := by
          rw [Nat.mul_one, ← Nat.pow_add, show i + (j - i) = j from by omega]
          omega
        exact hless (j - i) (by omega) (by omega) (cancel hN h1' i e3).symm) (a % n - 1) (by omega)
    have hka : g ^ k % n = a % n := by have := nz k; omega
    have h4 := pow_one_mod h1' k
    rw [Nat.mul_comm, Nat.pow_mul, Nat.pow_mod, hka, ← Nat.pow_mod, e1] at h4
    exact h4
  refine ⟨⟨hn, fun d hd => ?_⟩, all⟩
  by_cases hd1 : d = 1
  · exact .inl hd1
  by_cases hdn : d = n
  · exact .inr hdn
  exfalso
  have hle := Nat.le_of_dvd (by omega) hd
  have hd0 : d ≠ 0 := fun e => by rw [e] at hd; have := Nat.eq_zero_of_zero_dvd hd; omega
  have h3 := all d (by rw [Nat.mod_eq_of_lt (by omega)]; exact hd0)
  have h4 : d ∣ d ^ (n - 1) % n := by
    rw [Nat.dvd_mod_iff hd]
    exact Nat.dvd_trans (by rw [Nat.pow_one]; exact Nat.dvd_refl d) (Nat.pow_dvd_pow d (show 1 ≤ n - 1 by omega))
  rw [h3] at h4
  have := Nat.le_of_dvd (by omega) h4
  omega

/-- A power, modulo n. -/
def pw (n : Nat) : Nat → Nat → Nat → Nat
  | 0, _, _ => 1 % n
  | f + 1, b, e => if e % 2 = 1 then b * pw n f (b * b % n) (e / 2) % n else pw n f (b * b % n) (e / 2)
theorem pw_is (n : Nat) : ∀ f b e, e < 2 ^ f → pw n f b e = b ^ e % n
  | 0, b, e, h => by
    have : e = 0 := by simpa using h
    subst this
    simp [pw]
  | f + 1, b, e, h => by
    have ih := pw_is n f (b * b % n) (e / 2) (by rw [Nat.pow_succ] at h; omega)
    have e2 : (b * b % n) ^ (e / 2) % n = b ^ (2 * (e / 2)) % n := by rw [← Nat.pow_mod, ← Nat.pow_two, ← Nat.pow_mul]
    unfold pw
    rw [ih, e2]
    split
    · rw [Nat.mul_mod_mod, ← Nat.pow_succ']
      congr 2
      omega
    · congr 2
      omega
def lucasB (n g : Nat) (qs : List Nat) : Bool := decide (2 ≤ n) && decide (n < 2 ^ 256) && decide (mulL qs = n - 1) && decide (pw n 256 g (n - 1) = 1) && qs.all fun q => decide (pw n 256 g ((n - 1) / q) ≠ 1)
/-- A power, which nothing reckons. -/
def powN (v e : Nat) : Nat := v ^ e
/-- A prime, and the powers of what it does not divide. -/
def IsL (n : Nat) : Prop := IsP n ∧ ∀ a, a % n ≠ 0 → powN a (n - 1) % n = 1
theorem lucas (n g : Nat) (qs : List Nat) (h : lucasB n g qs = true) (hqs : ∀ q ∈ qs, IsP q) : IsL n := by
  unfold IsL powN
  simp only [lucasB, Bool.and_eq_true, decide_eq_true_eq, List.all_eq_true] at h
  obtain ⟨⟨⟨⟨h1, h2⟩, h3⟩, h4⟩, h5⟩ := h
  refine lucas_of h1 hqs h3 (by rw [← pw_is n 256 g (n - 1) (Nat.lt_of_le_of_lt (Nat.sub_le _ _) h2)]; exact h4) (fun q hq => ?_)
  have := h5 q hq
  rwa [pw_is n 256 g _ (Nat.lt_of_le_of_lt (Nat.div_le_self _ _) (Nat.lt_of_le_of_lt (Nat.sub_le _ _) h2))] at this
def primeB (n : Nat) : Bool := decide (2 ≤ n) && (List.range n).all fun d => decide (d < 2) || decide (n % d ≠ 0)
theorem small {n : Nat} (h : primeB n = true) : IsP n := by
  simp only [primeB, Bool.and_eq_true, decide_eq_true_eq, List.all_eq_true, Bool.or_eq_true, List.mem_range] at h
  refine ⟨h.1, fun d hd => ?_⟩
  by_cases hdn : d = n
  · exact .inr hdn
  have hle := Nat.le_of_dvd (by omega) hd
  rcases h.2 d (by omega) with h2 | h2
  · have : d ≠ 0 := fun e => by rw [e] at hd; have := Nat.eq_zero_of_zero_dvd hd; omega
    omega
  · exact absurd (Nat.mod_eq_zero_of_dvd hd) h2
theorem all_nil : ∀ q ∈ ([] : List Nat), IsP q := fun _ h => by cases h
theorem all_cons {x : Nat} {l : List Nat} (h : IsP x) (hl : ∀ q ∈ l, IsP q) : ∀ q ∈ x :: l, IsP q := fun q hq => by
  rcases List.mem_cons.1 hq with rfl | hq
  · exact h
  · exact hl q hq
theorem p2 : IsP 2 := small (by decide +kernel)
theorem p3 : IsP 3 := small (by decide +kernel)
theorem p5 : IsP 5 := small (by decide +kernel)
theorem p7 : IsP 7 := small (by decide +kernel)
theorem p13 : IsP 13 := small (by decide +kernel)
theorem p17 : IsP 17 := small (by decide +kernel)
theorem p19 : IsP 19 := small (by decide +kernel)
theorem p23 : IsP 23 := small (by decide +kernel)
theorem p29 : IsP 29 := small (by decide +kernel)
theorem p31 : IsP 31 := small (by decide +kernel)
theorem p41 : IsP 41 := small (by decide +kernel)
theorem p43 : IsP 43 := small (by decide +kernel)
theorem p47 : IsP 47 := small (by decide +kernel)
theorem p59 : IsP 59 := small (by decide +kernel)
theorem p83 : IsP 83 := small (by decide +kernel)
theorem p97 : IsP 97 := small (by decide +kernel)
theorem p103 : IsP 103 := small (by decide +kernel)
theorem p107 : IsP 107 := small (by decide +kernel)
theorem p127 : IsP 127 := small (by decide +kernel)
theorem p131 : IsP 131 := small (by decide +kernel)
theorem p173 : IsP 173 := small (by decide +kernel)
theorem p223 : IsP 223 := small (by decide +kernel)
theorem p353 : IsP 353 := small (by decide +kernel)
theorem p419 : IsP 419 := small (by decide +kernel)
theorem p479 : IsP 479 := small (by decide +kernel)
theorem p487 : IsP 487 := small (by decide +kernel)
theorem p991 : IsP 991 := small (by decide +kernel)
theorem p1723 : IsL 1723 := lucas 1723 3 [2, 3, 7, 41] (by decide +kernel) (all_cons p2 (all_cons p3 (all_cons p7 (all_cons p41 all_nil))))
theorem p2437 : IsL 2437 := lucas 2437 2 [2, 2, 3, 7, 29] (by decide +kernel) (all_cons p2 (all_cons p2 (all_cons p3 (all_cons p7 (all_cons p29 all_nil)))))
theorem p3727 : IsL 3727 := lucas 3727 3 [2, 3, 3, 3, 3, 23] (by decide +kernel) (all_cons p2 (all_cons p3 (all_cons p3 (all_cons p3 (all_cons p3 (all_cons p23 all_nil))))))
theorem p4153 : IsL 4153 := lucas 4153 5 [2, 2, 2, 3, 173] (by decide +kernel) (all_cons p2 (all_cons p2 (all_cons p2 (all_cons p3 (all_cons p173 all_nil)))))
theorem p9463 : IsL 9463 := lucas 9463 3 [2, 3, 19, 83] (by decide +kernel) (all_cons p2 (all_cons p3 (all_cons p19 (all_cons p83 all_nil))))
theorem p32573 : IsL 32573 := lucas 32573 2 [2, 2, 17, 479] (by decide +kernel) (all_cons p2 (all_cons p2 (all_cons p17 (all_cons p479 all_nil))))
theorem p37853 : IsL 37853 := lucas 37853 2 [2, 2, 9463] (by decide +kernel) (all_cons p2 (all_cons p2 (all_cons p9463.1 all_nil)))
theorem p57467 : IsL 57467 := lucas 57467 2 [2, 59, 487] (by decide +kernel) (all_cons p2 (all_cons p59 (all_cons p487 all_nil)))
theorem p65147 : IsL 65147 := lucas 65147 2 [2, 32573] (by decide +kernel) (all_cons p2 (all_cons p32573.1 all_nil))
theorem p75707 : IsL 75707 := lucas 75707 2 [2, 37853] (by decide +kernel) (all_cons p2 (all_cons p37853.1 all_nil))
theorem p132049 : IsL 132049 := lucas 132049 26 [2, 2, 2, 2, 3, 3, 7, 131] (by decide +kernel) (all_cons p2 (all_cons p2 (all_cons p2 (all_cons p2 (all_cons p3 (all_cons p3 (all_cons p7 (all_cons p131 all_nil))))))))
theorem p430751 : IsL 430751 := lucas 430751 17 [2, 5, 5, 5, 1723] (by decide +kernel) (all_cons p2 (all_cons p5 (all_cons p5 (all_cons p5 (all_cons p1723.1 all_nil)))))
theorem p569003 : IsL 569003 := lucas 569003 2 [2, 7, 97, 419] (by decide +kernel) (all_cons p2 (all_cons p7 (all_cons p97 (all_cons p419 all_nil))))
theorem p1923133 : IsL 1923133 := lucas 1923133 2 [2, 2, 3, 43, 3727] (by decide +kernel) (all_cons p2 (all_cons p2 (all_cons p3 (all_cons p43 (all_cons p3727.1 all_nil)))))
theorem p8574133 : IsL 8574133 := lucas 8574133 2 [2, 2, 3, 7, 103, 991] (by decide +kernel) (all_cons p2 (all_cons p2 (all_cons p3 (all_cons p7 (all_cons p103 (all_cons p991 all_nil))))))
theorem p2773320623 : IsL 2773320623 := lucas 2773320623 5 [2, 2437, 569003] (by decide +kernel) (all_cons p2 (all_cons p2437.1 (all_cons p569003.1 all_nil)))
theorem p72106336199 : IsL 72106336199 := lucas 72106336199 7 [2, 13, 2773320623] (by decide +kernel) (all_cons p2 (all_cons p13 (all_cons p2773320623.1 all_nil)))
theorem p1919519569386763 : IsL 1919519569386763 := lucas 1919519569386763 2 [2, 3, 7, 19, 47, 47, 127, 8574133] (by decide +kernel) (all_cons p2 (all_cons p3 (all_cons p7 (all_cons p19 (all_cons p47 (all_cons p47 (all_cons p127 (all_cons p8574133.1 all_nil))))))))
theorem p31757755568855353 : IsL 31757755568855353 := lucas 31757755568855353 10 [2, 2, 2, 3, 31, 107, 223, 4153, 430751] (by decide +kernel) (all_cons p2 (all_cons p2 (all_cons p2 (all_cons p3 (all_cons p31 (all_cons p107 (all_cons p223 (all_cons p4153.1 (all_cons p430751.1 all_nil)))))))))
theorem p75445702479781427272750846543864801 : IsL 75445702479781427272750846543864801 := lucas 75445702479781427272750846543864801 7 [2, 2, 2, 2, 2, 3, 3, 5, 5, 75707, 72106336199, 1919519569386763] (by decide +kernel) (all_cons p2 (all_cons p2 (all_cons p2 (all_cons p2 (all_cons p2 (all_cons p3 (all_cons p3 (all_cons p5 (all_cons p5 (all_cons p75707.1 (all_cons p72106336199.1 (all_cons p1919519569386763.1 all_nil))))))))))))
theorem p74058212732561358302231226437062788676166966415465897661863160754340907 : IsL 74058212732561358302231226437062788676166966415465897661863160754340907 := lucas 74058212732561358302231226437062788676166966415465897661863160754340907 2 [2, 3, 353, 57467, 132049, 1923133, 31757755568855353, 75445702479781427272750846543864801] (by decide +kernel) (all_cons p2 (all_cons p3 (all_cons p353 (all_cons p57467.1 (all_cons p132049.1 (all_cons p1923133.1 (all_cons p31757755568855353.1 (all_cons p75445702479781427272750846543864801.1 all_nil))))))))
theorem p57896044618658097711785492504343953926634992332820282019728792003956564819949 : IsL 57896044618658097711785492504343953926634992332820282019728792003956564819949 := lucas 57896044618658097711785492504343953926634992332820282019728792003956564819949 2 [2, 2, 3, 65147, 74058212732561358302231226437062788676166966415465897661863160754340907] (by decide +kernel) (all_cons p2 (all_cons p2 (all_cons p3 (all_cons p65147.1 (all_cons p74058212732561358302231226437062788676166966415465897661863160754340907.1 all_nil)))))
end Go.Proofs.Ythgjhipfgdlbnaa
