/-
  THE LOOPS OF THE BIG INTEGERS' DIGITS, third part: the long division.
-/
import Derived.Test.YtaanocaobllohaaGreatDoorBigD
namespace Go.Proofs.YtaanocaobllohaaGreatDoor.D
open Go Rt M

/-- the guess -/
theorem div_L3 (n : Nat) (v u : List Int) (k : Nat) {vl ul lo zs : List Int} {v1 v2 t1 t0 u2 : Int} (hv : v = vl ++ [v2, v1]) (hu : u = lo ++ (ul ++ [u2, t0, t1]) ++ zs) (hlo : lo.length = k) (hul : ul.length = vl.length)
    (hlv : v.length < 1073741824) (hlu : u.length < 1073741824) (hvi : InR v) (hui : InR (ul ++ [u2, t0, t1])) (hv1 : 1 ≤ v1) (hlt : val (ul ++ [u2, t0, t1]) < 1048576 * val v) :
    ∀ (N : Nat) (g rest : Int), g.toNat = N → 0 ≤ g → 0 ≤ rest → g * v1 + rest = t1 * 1048576 + t0 → val (ul ++ [u2, t0, t1]) < (g + 1) * val v →
      ∃ g', 0 ≤ g' ∧ g' ≤ 1048576 ∧ val (ul ++ [u2, t0, t1]) < (g' + 1) * val v ∧ (g' - 1) * val v ≤ val (ul ++ [u2, t0, t1]) ∧ ∀ (kont : Int → Option (List Int × List Int)) m, N < m → big_div_L3 n v (k : Int) u kont m g rest = kont g' := by
  have hv2 : 0 ≤ v2 ∧ v2 < 1048576 := hvi v2 (by rw [hv]; simp)
  have hv1' : 0 ≤ v1 ∧ v1 < 1048576 := hvi v1 (by rw [hv]; simp)
  have ht1 : 0 ≤ t1 ∧ t1 < 1048576 := hui t1 (by simp)
  have ht0 : 0 ≤ t0 ∧ t0 < 1048576 := hui t0 (by simp)
  have hu2 : 0 ≤ u2 ∧ u2 < 1048576 := hui u2 (by simp)
  have hvl : InR vl := fun e he => hvi e (by rw [hv]; simp [he])
  have hull : InR ul := fun e he => hui e (by simp [he])
  have eV : val v = val vl + pw vl.length * (v2 + 1048576 * v1) := by rw [hv, val_append]; simp [val]
  have eU : val (ul ++ [u2, t0, t1]) = val ul + pw vl.length * (u2 + 1048576 * (t1 * 1048576 + t0)) := by
    rw [val_append, hul]
    simp only [val]
    have : t0 + 1048576 * (t1 + 1048576 * 0) = t1 * 1048576 + t0 := by omega
    rw [this]
  have hP := pw_pos vl.length
  have hvlP := val_lt hvl
  have hulP := val_lt hull
  rw [hul] at hulP
  have hvl0 := val_nonneg hvl
  have hul0 := val_nonneg hull
  have hlen : v.length = vl.length + 2 := by rw [hv]; simp
  have hlenu : u.length = k + vl.length + 3 + zs.length := by rw [hu]; simp [hlo, hul]; omega
  -- the places that are read
  have i1 : isub .i64 (v.length : Int) 2 = ((vl.length : Nat) : Int) := by rw [isub_i64 (by omega) (by omega)]; omega
  have i2 : isub .i64 (v.length : Int) 1 = ((vl.length + 1 : Nat) : Int) := by rw [isub_i64 (by omega) (by omega)]; omega
  have i3 : isub .i64 (iadd .i64 (k : Int) (v.length : Int)) 2 = ((k + vl.length : Nat) : Int) := by rw [iadd_i64 (by omega) (by omega), isub_i64 (by omega) (by omega)]; omega
  have r1 : ix v ((vl.length : Nat) : Int) = some v2 := by rw [hv]; exact ix_mid vl v2 [v1] rfl
  have r2 : ix v ((vl.length + 1 : Nat) : Int) = some v1 := by
    rw [hv, show vl ++ [v2, v1] = (vl ++ [v2]) ++ [v1] by simp]; exact ix_mid (vl ++ [v2]) v1 [] (by simp)
  have r3 : ix u ((k + vl.length : Nat) : Int) = some u2 := by
    rw [hu, show lo ++ (ul ++ [u2, t0, t1]) ++ zs = (lo ++ ul) ++ u2 :: ([t0, t1] ++ zs) by simp]
    exact ix_mid (lo ++ ul) u2 _ (by simp [hlo, hul])
  intro N
  induction N with
  | zero =>
    intro g rest hg h0 hr hT hq
    have hg0 : g = 0 := by omega
    subst hg0
    refine ⟨0, by decide, by decide, hq, ?_, fun kont m hm => ?_⟩
    · have : 0 ≤ val v := val_nonneg hvi
      have := val_nonneg hui
      omega
    · obtain ⟨m, rfl⟩ : ∃ m', m = m' + 1 := ⟨m - 1, by omega⟩
      rw [big_div_L3_s]
      have e1 : decide ((1048576 : Int) ≤ 0) = false := by decide
      rw [e1]
      simp only [cond_false]
      by_cases hr2 : rest < 1048576
      · have e2 : decide (rest < 1048576) = true := by simpa using hr2
        rw [e2, i1, r1, i3, r3, shl_i64 (by omega) (by omega)]
        simp only [cond_true, Option.bind_some]
        rw [ior_i64 hr (by omega) hu2.1 hu2.2, imul_i64 (by omega) (by omega)]
        have e3 : decide (rest * 1048576 + u2 < 0 * v2) = false := by simp; omega
        rw [e3]; rfl
      · have e2 : decide (rest < 1048576) = false := by simpa using hr2
        rw [e2]; rfl
  | succ N ih =>
    intro g rest hg h0 hr hT hq
    -- what the test says
    by_cases hbig : 1048576 ≤ g ∨ (rest < 1048576 ∧ rest * 1048576 + u2 < g * v2)
    · -- one less
      have hq' : val (ul ++ [u2, t0, t1]) < (g - 1 + 1) * val v := by
        rw [show g - 1 + 1 = g by omega]
        rcases hbig with h | ⟨h1, h2⟩
        · have : 1048576 * val v ≤ g * val v := Int.mul_le_mul_of_nonneg_right h (val_nonneg hvi)
          omega
        · rw [eU, eV]
          exact knuth_high rfl hT hvl0 hulP h0 h2 hP
      have hT' : (g - 1) * v1 + (rest + v1) = t1 * 1048576 + t0 := by rw [← hT]; grind
      obtain ⟨g', a1, a2, a3, a4, a5⟩ := ih (g - 1) (rest + v1) (by omega) (by omega) (by omega) hT' hq'
      have hgv : 0 ≤ g * v1 := Int.mul_nonneg h0 (by omega)
      have hgle : g * 1 ≤ g * v1 := Int.mul_le_mul_of_nonneg_left hv1 h0
      refine ⟨g', a1, a2, a3, a4, fun kont m hm => ?_⟩
      obtain ⟨m, rfl⟩ : ∃ m', m = m' + 1 := ⟨m - 1, by omega⟩
      rw [big_div_L3_s]
      have hflag : ((bif decide ((1048576 : Int) ≤ g) then some true else (bif decide (rest < 1048576) then (ix v (isub .i64 (v.length : Int) 2)).bind fun ex8 => (shl .i64 rest 20).bind fun q4 => (ix u (isub .i64 (iadd .i64 (k : Int) (v.length : Int)) 2)).bind fun ex9 => some (decide ((ior .i64 q4 ex9) < (imul .i64 g ex8))) else some false).bind fun v12 => some v12) : Option Bool) = some true := by
        by_cases hgB : 1048576 ≤ g
        · rw [show decide ((1048576 : Int) ≤ g) = true by simpa using hgB]; rfl
        · rcases hbig with h | ⟨h1, h2⟩
          · exact absurd h hgB
          · have hm1 := mul_dig (g := g) h0 hv2.1 hv2.2
            rw [show decide ((1048576 : Int) ≤ g) = false by simpa using hgB, show decide (rest < 1048576) = true by simpa using h1, i1, r1, i3, r3, shl_i64 (by omega) (by omega)]
            simp only [cond_true, cond_false, Option.bind_some]
            rw [ior_i64 hr (by omega) hu2.1 hu2.2, imul_i64 (by omega) (by omega), show decide (rest * 1048576 + u2 < g * v2) = true by simpa using h2]
      rw [hflag]
      simp only [Option.bind_some, cond_true]
      rw [i2, r2]
      simp only [Option.bind_some]
      rw [isub_i64 (by omega) (by omega), iadd_i64 (by omega) (by omega)]
      exact a5 kont m (by omega)
    · -- it stays
      have hgB : g < 1048576 := by omega
      have hsm : g * v2 ≤ rest * 1048576 + u2 := by
        by_cases h1 : rest < 1048576
        · omega
        · have hm1 := mul_dig (g := g) h0 hv2.1 hv2.2
          omega
      refine ⟨g, h0, by omega, hq, ?_, fun kont m hm => ?_⟩
      · rw [eU, eV]
        exact knuth_low rfl hT hvl0 (by omega) hul0 (by omega) hsm hP hv1 hv2.1
      · obtain ⟨m, rfl⟩ : ∃ m', m = m' + 1 := ⟨m - 1, by omega⟩
        rw [big_div_L3_s]
        have hflag : ((bif decide ((1048576 : Int) ≤ g) then some true else (bif decide (rest < 1048576) then (ix v (isub .i64 (v.length : Int) 2)).bind fun ex8 => (shl .i64 rest 20).bind fun q4 => (ix u (isub .i64 (iadd .i64 (k : Int) (v.length : Int)) 2)).bind fun ex9 => some (decide ((ior .i64 q4 ex9) < (imul .i64 g ex8))) else some false).bind fun v12 => some v12) : Option Bool) = some false := by
          rw [show decide ((1048576 : Int) ≤ g) = false by simp; omega]
          by_cases h1 : rest < 1048576
          · have hm1 := mul_dig (g := g) h0 hv2.1 hv2.2
            rw [show decide (rest < 1048576) = true by simpa using h1, i1, r1, i3, r3, shl_i64 (by omega) (by omega)]
            simp only [cond_true, cond_false, Option.bind_some]
            rw [ior_i64 hr (by omega) hu2.1 hu2.2, imul_i64 (by omega) (by omega), show decide (rest * 1048576 + u2 < g * v2) = false by simp; omega]
          · rw [show decide (rest < 1048576) = false by simpa using h1]; rfl
        rw [hflag]; rfl

theorem last3 {l : List Int} (h : 3 ≤ l.length) : ∃ ul a b c, l = ul ++ [a, b, c] := by
  refine ⟨l.take (l.length - 3), l[l.length - 3], l[l.length - 2], l[l.length - 1], ?_⟩
  have h1 : l.drop (l.length - 3) = [l[l.length - 3], l[l.length - 2], l[l.length - 1]] := by
    rw [List.drop_eq_getElem_cons (by omega), List.drop_eq_getElem_cons (by omega), List.drop_eq_getElem_cons (by omega), List.drop_eq_nil_of_le (by omega)]
    simp only [show l.length - 3 + 1 = l.length - 2 by omega, show l.length - 2 + 1 = l.length - 1 by omega]
  rw [← h1, List.take_append_drop]
theorem last2 {l : List Int} (h : 2 ≤ l.length) : ∃ ul a b, l = ul ++ [a, b] := by
  refine ⟨l.take (l.length - 2), l[l.length - 2], l[l.length - 1], ?_⟩
  have h1 : l.drop (l.length - 2) = [l[l.length - 2], l[l.length - 1]] := by
    rw [List.drop_eq_getElem_cons (by omega), List.drop_eq_getElem_cons (by omega), List.drop_eq_nil_of_le (by omega)]
    simp only [show l.length - 2 + 1 = l.length - 1 by omega]
  rw [← h1, List.take_append_drop]
theorem last1 {l : List Int} (h : 1 ≤ l.length) : ∃ ul a, l = ul ++ [a] :=
  ⟨l.take (l.length - 1), l[l.length - 1], by
    have h1 : l.drop (l.length - 1) = [l[l.length - 1]] := by
      rw [List.drop_eq_getElem_cons (by omega), List.drop_eq_nil_of_le (by omega)]
    rw [← h1, List.take_append_drop]⟩
theorem first_guess {P Ul u2 T V1 V2 Vl g : Int} (hP : 0 < P) (hU : Ul < P) (hu : u2 < 1048576) (hV : 0 ≤ Vl) (h2 : 0 ≤ V2) (hg : T < (g + 1) * V1) (hg0 : 0 ≤ g) :
    Ul + P * (u2 + 1048576 * T) < (g + 1) * (Vl + P * (V2 + 1048576 * V1)) := by
  have e1 : P * u2 ≤ P * 1048575 := Int.mul_le_mul_of_nonneg_left (by omega) (by omega)
  have e2 : P * (T + 1) ≤ P * ((g + 1) * V1) := Int.mul_le_mul_of_nonneg_left (by omega) (by omega)
  have e3 : 0 ≤ (g + 1) * Vl := Int.mul_nonneg (by omega) hV
  have e4 : 0 ≤ (g + 1) * (P * V2) := Int.mul_nonneg (by omega) (Int.mul_nonneg (by omega) h2)
  have e5 : (g + 1) * (Vl + P * (V2 + 1048576 * V1)) = (g + 1) * Vl + (g + 1) * (P * V2) + 1048576 * (P * ((g + 1) * V1)) := by grind
  have e6 : Ul + P * (u2 + 1048576 * T) = Ul + P * u2 + 1048576 * (P * (T + 1)) - 1048576 * P := by grind
  omega

/-- the rounds of the long division -/
theorem div_L2 (n : Nat) (v : List Int) (kont : List Int → List Int → Option (List Int × List Int)) (hv : Canon v) (hl2 : 2 ≤ v.length) (hlv : v.length < 268435456) (hn : 4398046511104 < n) :
    ∀ (k : Nat) (lo w zs qd : List Int) (m : Nat), lo.length = k → w.length = v.length → InR lo → InR w → InR zs → val zs = 0 → val w < val v → k + v.length + zs.length < 1073741824 → k < m →
      ∃ uf, big_div_L2 n v kont m ((k : Int) - 1) (List.replicate k 0 ++ qd) (lo ++ (w ++ zs)) = kont ((longD (val v) lo (val w)).1 ++ qd) uf ∧ InR uf ∧ uf.length = k + v.length + zs.length ∧ val uf = (longD (val v) lo (val w)).2
  | 0, lo, w, zs, qd, m + 1, hlo, hw, hil, hiw, hiz, hz, hlt, hlen, hm => by
    have : lo = [] := List.eq_nil_of_length_eq_zero hlo
    subst this
    refine ⟨w ++ zs, ?_, hiw.append hiz, by simp [hw], ?_⟩
    · rw [big_div_L2_s]
      have e1 : decide ((0 : Int) ≤ ((0 : Nat) : Int) - 1) = false := by decide
      rw [e1]; simp [longD]
    · rw [val_append, hz]; simp [longD]
  | k + 1, lo, w, zs, qd, m + 1, hlo, hw, hil, hiw, hiz, hz, hlt, hlen, hm => by
    obtain ⟨lo', d, rfl⟩ := last1 (l := lo) (by omega)
    obtain ⟨vl, v2, v1, hvd⟩ := last2 hl2
    obtain ⟨ul, u2, t0, t1, hwin⟩ := last3 (l := d :: w) (by simp; omega)
    have hlo' : lo'.length = k := by simpa using hlo
    have hid : 0 ≤ d ∧ d < 1048576 := hil d (by simp)
    have hiwin : InR (ul ++ [u2, t0, t1]) := by rw [← hwin]; exact InR.cons hid.1 hid.2 hiw
    have hv1 : 1 ≤ v1 ∧ v1 < 1048576 := by
      have h1 := hv.1 v1 (by rw [hvd]; simp)
      have h2 := hv.2
      rw [hvd] at h2
      have : v1 ≠ 0 := by simpa using h2
      omega
    have ht1 : 0 ≤ t1 ∧ t1 < 1048576 := hiwin t1 (by simp)
    have ht0 : 0 ≤ t0 ∧ t0 < 1048576 := hiwin t0 (by simp)
    have hu2 : 0 ≤ u2 ∧ u2 < 1048576 := hiwin u2 (by simp)
    have hv2 : 0 ≤ v2 ∧ v2 < 1048576 := hv.1 v2 (by rw [hvd]; simp)
    have hvll : v.length = vl.length + 2 := by rw [hvd]; simp
    have hull : ul.length = vl.length := by
      have := congrArg List.length hwin
      simp at this; omega
    have hV := val_nonneg hv.1
    have hU0 := val_nonneg hiwin
    have hUw : val (ul ++ [u2, t0, t1]) = d + 1048576 * val w := by rw [← hwin]; rfl
    have hw0 := val_nonneg hiw
    have hult : val (ul ++ [u2, t0, t1]) < 1048576 * val v := by omega
    have eV : val v = val vl + pw vl.length * (v2 + 1048576 * v1) := by rw [hvd, val_append]; simp [val]
    have eU : val (ul ++ [u2, t0, t1]) = val ul + pw vl.length * (u2 + 1048576 * (t1 * 1048576 + t0)) := by
      rw [val_append, hull]
      simp only [val]
      have : t0 + 1048576 * (t1 + 1048576 * 0) = t1 * 1048576 + t0 := by omega
      rw [this]
    obtain ⟨T, hT⟩ : ∃ T, T = t1 * 1048576 + t0 := ⟨_, rfl⟩
    have hT0 : 0 ≤ T := by omega
    have hT1 : T < 1099511627776 := by omega
    have hg0 : 0 ≤ T / v1 := Int.ediv_nonneg hT0 (by omega)
    have hgT : T / v1 ≤ T := Int.ediv_le_self v1 hT0
    have hr0 : 0 ≤ T % v1 := Int.emod_nonneg _ (by omega)
    have hr1 : T % v1 < v1 := Int.emod_lt_of_pos _ (by omega)
    have hsum : T / v1 * v1 + T % v1 = T := by have := Int.mul_ediv_add_emod T v1; rw [Int.mul_comm] at this; exact this
    have hq0 : val (ul ++ [u2, t0, t1]) < (T / v1 + 1) * val v := by
      rw [eU, eV, ← hT]
      have h1 := val_lt (l := ul) (fun e he => hiwin e (by simp [he]))
      rw [hull] at h1
      refine first_guess (pw_pos _) h1 hu2.2 (val_nonneg (fun e he => hv.1 e (by rw [hvd]; simp [he]))) hv2.1 ?_ hg0
      rw [Int.add_mul, Int.one_mul]; omega
    obtain ⟨u, hu⟩ : ∃ u, u = lo' ++ (ul ++ [u2, t0, t1]) ++ zs := ⟨_, rfl⟩
    have hu' : lo' ++ [d] ++ (w ++ zs) = u := by rw [hu, ← hwin]; simp
    have hulen : u.length = k + v.length + 1 + zs.length := by rw [← hu']; simp [hlo', hw]; omega
    obtain ⟨g', a1, a2, a3, a4, a5⟩ := div_L3 n v u k hvd hu hlo' hull (by omega) (by omega) hv.1 hiwin hv1.1 hult (T / v1).toNat (T / v1) (T % v1) rfl hg0 hr0 (by rw [hsum, hT]) hq0
    obtain ⟨r, s1, s2, s3, s4⟩ := settle_n (n := n) hiwin hv.1 (by simp; omega) (by simp; omega) a1 a2 (by omega) a3 a4 (by simp; omega)
    -- what is left is smaller than the divisor: its top digit is 0
    have hVpos : 0 < val v := by omega
    have hrlt : val r < val v := by rw [s4]; exact Int.emod_lt_of_pos _ hVpos
    obtain ⟨w'', z, hrw⟩ := last1 (l := r) (by rw [s3]; simp)
    have hw''l : w''.length = v.length := by
      have := congrArg List.length hrw
      rw [s3] at this
      simp at this; omega
    have hz0 : z = 0 := by
      have h1 := val_lt hv.1
      have h2 : 0 ≤ z ∧ z < 1048576 := s2 z (by rw [hrw]; simp)
      have h3 := val_nonneg (l := w'') (fun e he => s2 e (by rw [hrw]; simp [he]))
      rw [hrw, val_append, hw''l] at hrlt
      simp only [val, Int.mul_zero, Int.add_zero] at hrlt
      rcases (show z = 0 ∨ 1 ≤ z by omega) with h4 | h4
      · exact h4
      · have h5 : pw v.length * 1 ≤ pw v.length * z := Int.mul_le_mul_of_nonneg_left h4 (by have := pw_pos v.length; omega)
        omega
    subst hz0
    have hrval : val r = val w'' := by rw [hrw, val_append]; simp [val]
    have hiw'' : InR w'' := fun e he => s2 e (by rw [hrw]; simp [he])
    have hqi : InR [val (ul ++ [u2, t0, t1]) / val v] := InR.cons (Int.ediv_nonneg hU0 (by omega)) (Int.ediv_lt_of_lt_mul hVpos (by omega)) InR.nil
    obtain ⟨uf, b1, b2, b3, b4⟩ := div_L2 n v kont hv hl2 hlv hn k lo' w'' (0 :: zs) (val (ul ++ [u2, t0, t1]) / val v :: qd) m hlo' hw''l (fun e he => hil e (by simp [he])) hiw'' (InR.cons (by decide) (by decide) hiz) (by simp [val, hz]) (by omega) (by simp; omega) (by omega)
    refine ⟨uf, ?_, b2, by rw [b3]; simp; omega, ?_⟩
    · rw [big_div_L2_s, hu']
      have e0 : ((k + 1 : Nat) : Int) - 1 = (k : Int) := by omega
      have e1 : decide ((0 : Int) ≤ (k : Int)) = true := by simp
      have i1 : iadd .i64 (k : Int) (v.length : Int) = ((k + v.length : Nat) : Int) := by rw [iadd_i64 (by omega) (by omega)]; omega
      have i2 : isub .i64 ((k + v.length : Nat) : Int) 1 = ((k + vl.length + 1 : Nat) : Int) := by rw [isub_i64 (by omega) (by omega)]; omega
      have i3 : isub .i64 (v.length : Int) 1 = ((vl.length + 1 : Nat) : Int) := by rw [isub_i64 (by omega) (by omega)]; omega
      have r1 : ix u ((k + v.length : Nat) : Int) = some t1 := by
        rw [hu, show lo' ++ (ul ++ [u2, t0, t1]) ++ zs = (lo' ++ (ul ++ [u2, t0])) ++ t1 :: zs by simp]
        exact ix_mid _ t1 _ (by simp [hlo', hull]; omega)
      have r2 : ix u ((k + vl.length + 1 : Nat) : Int) = some t0 := by
        rw [hu, show lo' ++ (ul ++ [u2, t0, t1]) ++ zs = (lo' ++ (ul ++ [u2])) ++ t0 :: (t1 :: zs) by simp]
        exact ix_mid _ t0 _ (by simp [hlo', hull]; omega)
      have r3 : ix v ((vl.length + 1 : Nat) : Int) = some v1 := by
        rw [hvd, show vl ++ [v2, v1] = (vl ++ [v2]) ++ [v1] by simp]; exact ix_mid (vl ++ [v2]) v1 [] (by simp)
      rw [e0, e1, i1, r1, cond_true, Option.bind_some, shl_i64 (by omega) (by omega), Option.bind_some, i2, r2, Option.bind_some, i3, r3, Option.bind_some, ior_i64 ht1.1 (by omega) ht0.1 ht0.2, ← hT, quo_i64 hT0 (by omega) (by omega), Option.bind_some, Option.bind_some, rem_pos hT0 (by omega), Option.bind_some]
      rw [a5 _ n (by omega)]
      have i4 : iadd .i64 ((k + v.length : Nat) : Int) 1 = ((k + v.length + 1 : Nat) : Int) := inc64 (by omega)
      have r4 : lsl u (k : Int) ((k + v.length + 1 : Nat) : Int) = some (ul ++ [u2, t0, t1]) := by
        rw [lsl_eq (by omega) (by omega), hu]
        congr 1
        rw [List.take_append_of_le_length (by simp [hlo', hull]; omega), List.take_of_length_le (by simp [hlo', hull]; omega), ← hlo', List.drop_left]
      rw [i4, r4, Option.bind_some, s1, Option.bind_some, List.replicate_succ', List.append_assoc, List.singleton_append, ix_mid _ 0 _ (by simp), Option.bind_some, lset_mid _ 0 _ _ (by simp), Option.bind_some, isub_i64 (by omega) (by omega)]
      have r5 : lput u (k : Int) r ((k + v.length + 1 : Nat) : Int) = lo' ++ (w'' ++ 0 :: zs) := by
        have hX : (lo' ++ (ul ++ [u2, t0, t1])).length = k + v.length + 1 := by simp [hlo', hull]; omega
        have d1 : u.drop (k + v.length + 1) = zs := by rw [hu, ← hX]; exact List.drop_left
        have d2 : u.take k = lo' := by rw [hu, List.append_assoc, ← hlo']; exact List.take_left
        unfold lput
        rw [Int.toNat_natCast, Int.toNat_natCast, d1, d2, hrw]
        simp
      rw [r5, b1]
      congr 1
      rw [longD_append]
      simp only [longD]
      have e2 : val w * 1048576 + d = val (ul ++ [u2, t0, t1]) := by omega
      rw [e2, ← s4, hrval]
      simp
    · rw [b4, longD_append]
      simp only [longD]
      have e2 : val w * 1048576 + d = val (ul ++ [u2, t0, t1]) := by omega
      rw [e2, ← s4, hrval]
  | _, _, _, _, _, 0, _, _, _, _, _, _, _, _, h => by omega

/-- the shift -/
theorem div_L1 (b : List Int) (hl : 1 ≤ b.length) (hlb : b.length < 1073741824) {top : Int} (htop : ix b ((b.length - 1 : Nat) : Int) = some top) (h1 : 1 ≤ top) (h2 : top < 1048576) :
    ∀ (N j : Nat), j + N = 19 → ∃ s' : Int, 1 ≤ s' ∧ s' ≤ 524288 ∧ ∀ (n : Nat) (kont : Int → Option (List Int × List Int)) m, N < m → big_div_L1 n b kont m ((2 ^ j : Nat) : Int) = kont s' := by
  have i1 : isub .i64 (b.length : Int) 1 = ((b.length - 1 : Nat) : Int) := by rw [isub_i64 (by omega) (by omega)]; omega
  have htm : ∀ s : Int, 1 ≤ s → s ≤ 524288 → 0 ≤ top * s ∧ top * s ≤ 549755813888 := fun s a1 a2 =>
    ⟨Int.mul_nonneg (by omega) (by omega), by have := Int.mul_le_mul (show top ≤ 1048576 by omega) a2 (by omega) (by omega); omega⟩
  have hpow : ∀ j : Nat, j ≤ 19 → 1 ≤ ((2 ^ j : Nat) : Int) ∧ ((2 ^ j : Nat) : Int) ≤ 524288 := fun j hj => by
    have h1 := Nat.pow_le_pow_right (n := 2) (by decide) hj
    have h2 := Nat.pow_pos (n := j) (show 0 < 2 by decide)
    have h3 : 2 ^ 19 = 524288 := by decide
    omega
  intro N
  induction N with
  | zero =>
    intro j hj
    obtain rfl : j = 19 := by omega
    have hp := hpow 19 (by omega)
    refine ⟨((2 ^ 19 : Nat) : Int), hp.1, hp.2, fun n kont m hm => ?_⟩
    obtain ⟨m, rfl⟩ : ∃ m', m = m' + 1 := ⟨m - 1, by omega⟩
    have := htm _ hp.1 hp.2
    have hs : ((2 ^ 19 : Nat) : Int) = 524288 := by decide
    have e1 : decide (top * ((2 ^ 19 : Nat) : Int) < 524288) = false := by
      rw [hs, decide_eq_false_iff_not]
      omega
    rw [big_div_L1_s, i1, htop, Option.bind_some, imul_i64 (by omega) (by omega), e1, cond_false]
  | succ N ih =>
    intro j hj
    have hp := hpow j (by omega)
    have hp2 := hpow (j + 1) (by omega)
    have hm0 := htm _ hp.1 hp.2
    have hdbl : ((2 ^ j : Nat) : Int) * 2 = ((2 ^ (j + 1) : Nat) : Int) := by rw [Nat.pow_succ]; omega
    by_cases h : top * ((2 ^ j : Nat) : Int) < 524288
    · obtain ⟨s', a1, a2, a3⟩ := ih (j + 1) (by omega)
      refine ⟨s', a1, a2, fun n kont m hm => ?_⟩
      obtain ⟨m, rfl⟩ : ∃ m', m = m' + 1 := ⟨m - 1, by omega⟩
      rw [big_div_L1_s, i1, htop, Option.bind_some, imul_i64 (by omega) (by omega), show decide (top * ((2 ^ j : Nat) : Int) < 524288) = true by simpa using h, cond_true, imul_i64 (by omega) (by omega), hdbl]
      exact a3 n kont m (by omega)
    · refine ⟨_, hp.1, hp.2, fun n kont m hm => ?_⟩
      obtain ⟨m, rfl⟩ : ∃ m', m = m' + 1 := ⟨m - 1, by omega⟩
      rw [big_div_L1_s, i1, htop, Option.bind_some, imul_i64 (by omega) (by omega), show decide (top * ((2 ^ j : Nat) : Int) < 524288) = false by rw [decide_eq_false_iff_not]; exact h, cond_false]

theorem nat_div_scale {a b s : Nat} (hs : 0 < s) : a * s / (b * s) = a / b ∧ a * s % (b * s) = a % b * s := ⟨Nat.mul_div_mul_right _ _ hs, Nat.mul_mod_mul_right _ _ _⟩

/-- the division of digits -/
theorem div_ev {x y : Nat} (hy : y ≠ 0) (hlx : (dig x).length < 16777216) (hly : (dig y).length < 16777216) : Ev (fun n => big_div n (dig x) (dig y)) (dig (x / y), dig (x % y)) := by
  unfold big_div
  refine Ev.bind (a := sg ((x : Int) - y)) ⟨(dig x).length + 1, fun n hn => ?_⟩ ?_
  · have := compare_n (n := n) (Canon_dig x) (Canon_dig y) (by omega) (by omega)
    rw [val_dig, val_dig] at this; exact this
  by_cases hlt : x < y
  · refine Ev.then (by simp [sg]; omega) ?_
    refine Ev.bind (clone_ev (by omega)) ?_
    rw [Nat.div_eq_of_lt hlt, Nat.mod_eq_of_lt hlt, dig_zero]
    exact Ev.pure _
  refine Ev.else (by simp [sg]; split <;> (try split) <;> omega) ?_
  have hyl : 1 ≤ (dig y).length := by
    have := dig_ne hy
    cases h : dig y with
    | nil => exact absurd h this
    | cons => simp
  by_cases h1 : (dig y).length = 1
  · refine Ev.then (by simp [h1]) ?_
    obtain ⟨d, hd⟩ : ∃ d, dig y = [d] := List.length_eq_one_iff.1 h1
    have hdy : d = y := by have := val_dig y; rw [hd] at this; simpa [val] using this
    have hd1 : 0 ≤ d ∧ d < 1048576 := InR_dig y d (by rw [hd]; simp)
    refine Ev.step (a := d) (by rw [hd]; rfl) ?_
    refine Ev.bind (short_ev (InR_dig x) (by omega) (by omega) (by omega)) ?_
    have hm : 0 ≤ (x : Int) % y ∧ (x : Int) % y < 1048576 := ⟨Int.emod_nonneg _ (by omega), by have := Int.emod_lt_of_pos (x : Int) (show (0 : Int) < y by omega); omega⟩
    refine Ev.bind (trim_ev (InR.cons (by rw [val_dig, hdy]; exact hm.1) (by rw [val_dig, hdy]; exact hm.2) InR.nil) (by simp)) ?_
    refine (Ev.pure _).eq ?_
    simp only [val_dig, hdy, val, Int.mul_zero, Int.add_zero]
    rw [← Int.natCast_ediv, ← Int.natCast_emod, Int.toNat_natCast, Int.toNat_natCast]
  refine Ev.else (by simp; omega) ?_
  -- the long way
  obtain ⟨pl, top, hpt⟩ := last1 (l := dig y) hyl
  have htop : ix (dig y) (((dig y).length - 1 : Nat) : Int) = some top := by
    have : ∀ l : List Int, l = pl ++ [top] → ix l ((l.length - 1 : Nat) : Int) = some top := fun l hl => by subst hl; exact ix_mid pl top [] (by simp)
    exact this _ hpt
  have ht1 : 0 ≤ top ∧ top < 1048576 := InR_dig y top (by rw [hpt]; simp)
  have ht2 : top ≠ 0 := by have := dig_last y; rw [hpt] at this; simpa using this
  obtain ⟨s, hs1, hs2, hL1⟩ := div_L1 (dig y) hyl (by omega) htop (by omega) ht1.2 19 0 rfl
  rw [show ((2 ^ 0 : Nat) : Int) = 1 from rfl] at hL1
  refine Ev.from 20 (fun n hn => hL1 n _ n (by omega)) ?_
  obtain ⟨S, rfl⟩ := Int.eq_ofNat_of_zero_le (show 0 ≤ s by omega)
  have hS : 0 < S := by omega
  have hSi : InR [(S : Int)] := InR.cons (by omega) (by omega) InR.nil
  have hmul : ∀ z : Nat, (val (dig z) * val [(S : Int)]).toNat = z * S := fun z => by
    rw [val_dig]; simp only [val, Int.mul_zero, Int.add_zero]
    rw [← Int.natCast_mul, Int.toNat_natCast]
  have m1 := mul_ev (InR_dig x) hSi (by omega) (by simp)
  have m2 := mul_ev (InR_dig y) hSi (by omega) (by simp)
  rw [hmul] at m1 m2
  have hxS : x ≤ x * S := Nat.le_mul_of_pos_right _ hS
  have hyS : y ≤ y * S := Nat.le_mul_of_pos_right _ hS
  have hxy : y * S ≤ x * S := Nat.mul_le_mul_right _ (by omega)
  have l1 := len_mono hxS
  have l2 := len_mono hyS
  have l3 := len_mono hxy
  have l4 : (dig (x * S)).length ≤ (dig x).length + 1 := by
    have h := mulF_len [(S : Int)] (dig x) [0] rfl
    have h2 := len_dig_le (mulF_in hSi (dig x) [0] (InR_dig x) (InR.rep 1))
    rw [mulF_val [(S : Int)] (dig x) [0] rfl, show val [(0 : Int)] = 0 from rfl, Int.zero_add, hmul, h] at h2
    simpa using h2
  refine Ev.bind m1 ?_
  refine Ev.step (a := dig (x * S) ++ [0]) (app_eq (by simp; omega)) ?_
  refine Ev.bind m2 ?_
  refine Ev.step (a := dig (x * S) ++ [0]) (by
    have : (((dig (x * S) ++ [(0 : Int)]).length : Int) == ((dig x).length : Int)) = false := by simp; omega
    rw [this, cond_false]) ?_
  obtain ⟨k, hk⟩ : ∃ k, (dig (x * S)).length + 1 = (dig (y * S)).length + k := ⟨(dig (x * S)).length + 1 - (dig (y * S)).length, by omega⟩
  have hk1 : 1 ≤ k := by omega
  have hkle : k ≤ (dig (x * S)).length := by omega
  refine Ev.step (a := List.replicate k 0) (by
    rw [isub_i64 (by simp; omega) (by simp; omega), show (((dig (x * S) ++ [(0 : Int)]).length : Int) - ((dig (y * S)).length : Int)) = (k : Int) by simp; omega]
    exact mks_eq (by omega)) ?_
  -- the rounds
  have hyS0 : y * S ≠ 0 := by omega
  obtain ⟨pl', top', hpt'⟩ := last1 (l := dig (y * S)) (by omega)
  have htop' : 1 ≤ top' := by
    have h1 := InR_dig (y * S) top' (by rw [hpt']; simp)
    have h2 := dig_last (y * S)
    rw [hpt'] at h2
    have : top' ≠ 0 := by simpa using h2
    omega
  have hVge : pw ((dig (y * S)).length - 1) ≤ val (dig (y * S)) := by
    have h0 : (dig (y * S)).length - 1 = pl'.length := by rw [hpt']; simp
    rw [h0, hpt', val_append]
    have h1 := val_nonneg (l := pl') (fun e he => InR_dig (y * S) e (by rw [hpt']; simp [he]))
    have h2 : pw pl'.length * 1 ≤ pw pl'.length * top' := Int.mul_le_mul_of_nonneg_left htop' (by have := pw_pos pl'.length; omega)
    simp only [val, Int.mul_zero, Int.add_zero]
    omega
  have hw : (dig (x * S) ++ [(0 : Int)]).drop k = (dig (x * S)).drop k ++ [0] := List.drop_append_of_le_length hkle
  have hwlt : val ((dig (x * S) ++ [(0 : Int)]).drop k) < val (dig (y * S)) := by
    rw [hw, val_append]
    have h1 := val_lt ((InR_dig (x * S)).drop k)
    have h2 : ((dig (x * S)).drop k).length = (dig (y * S)).length - 1 := by simp; omega
    rw [h2] at h1
    simp only [val, Int.mul_zero, Int.add_zero]
    omega
  have hui : InR (dig (x * S) ++ [(0 : Int)]) := (InR_dig _).append (InR.cons (by decide) (by decide) InR.nil)
  refine ⟨4398046511105 + k + (dig (x * S)).length, fun n hn => ?_⟩
  obtain ⟨uf, r1, r2, r3, r4⟩ := div_L2 n (dig (y * S)) (fun (l6 : List Int) (l7 : List Int) => (big_trim n l7).bind fun v7 => (big_short n v7 (S : Int)).bind fun v8 => (big_trim n l6).bind fun v9 => some (v9, v8.1)) (Canon_dig _) (by omega) (by omega) (by omega)
    k ((dig (x * S) ++ [(0 : Int)]).take k) ((dig (x * S) ++ [(0 : Int)]).drop k) [] [] n (by simp; omega) (by simp; omega) (hui.take k) (hui.drop k) InR.nil rfl hwlt (by simp; omega) (by omega)
  simp only [List.append_nil, List.take_append_drop] at r1
  have hV : (0 : Int) < val (dig (y * S)) := by rw [val_dig]; omega
  have h0 := val_nonneg (hui.drop k)
  have q1 := longD_val (V := val (dig (y * S))) ((dig (x * S) ++ [(0 : Int)]).take k) (val ((dig (x * S) ++ [(0 : Int)]).drop k))
  have q2 := longD_rem hV ((dig (x * S) ++ [(0 : Int)]).take k) _ h0 hwlt
  have q3 := longD_in hV ((dig (x * S) ++ [(0 : Int)]).take k) _ (hui.take k) h0 hwlt
  have q4 := longD_len (val (dig (y * S))) ((dig (x * S) ++ [(0 : Int)]).take k) (val ((dig (x * S) ++ [(0 : Int)]).drop k))
  rw [valc_append, List.take_append_drop] at q1
  have q5 : val (dig (x * S) ++ [(0 : Int)]) = ((x * S : Nat) : Int) := by rw [val_append, val_dig]; simp [val]
  rw [q5] at q1
  have hVy : val (dig (y * S)) = ((y * S : Nat) : Int) := val_dig _
  rw [hVy] at q1 q2 q3 q4 r1 r4
  obtain ⟨g1, g2⟩ := quot_of (U := ((x * S : Nat) : Int)) (V := ((y * S : Nat) : Int)) (q := val (longD ((y * S : Nat) : Int) ((dig (x * S) ++ [(0 : Int)]).take k) (val ((dig (x * S) ++ [(0 : Int)]).drop k))).1) (by omega) (by omega) (by rw [Int.add_mul, Int.one_mul]; omega)
  obtain ⟨n1, n2⟩ := nat_div_scale (a := x) (b := y) hS
  have e1 : val uf = ((x % y * S : Nat) : Int) := by
    rw [r4, ← n2, Int.natCast_emod]; omega
  have e2 : val (longD ((y * S : Nat) : Int) ((dig (x * S) ++ [(0 : Int)]).take k) (val ((dig (x * S) ++ [(0 : Int)]).drop k))).1 = ((x / y : Nat) : Int) := by
    rw [← g1, ← n1, Int.natCast_ediv]
  have hul : uf.length < n := by rw [r3]; simp; omega
  have hlu : uf.length < 1073741824 := by rw [r3]; simp; omega
  have hdl := len_dig_le r2
  rw [e1, Int.toNat_natCast] at hdl
  dsimp only
  rw [List.length_replicate, isub_i64 (by omega) (by omega), r1, trim_n r2 (by omega) hul, e1, Int.toNat_natCast, Option.bind_some,
    short_n (InR_dig _) (by omega) (by omega) (by omega) (n := n) (by omega), Option.bind_some,
    trim_n q3 (by rw [q4]; simp; omega) (by rw [q4]; simp; omega), Option.bind_some, e2, Int.toNat_natCast, val_dig]
  have e3 : ((x % y * S : Nat) : Int) / (S : Int) = ((x % y : Nat) : Int) := by
    rw [← Int.natCast_ediv, Nat.mul_div_cancel _ hS]
  rw [e3, Int.toNat_natCast]
end Go.Proofs.YtaanocaobllohaaGreatDoor.D
