/-
  PLAIN: LexerBack.
-/
import Derived.Test.YtaibejlploombaaDoorLexThy
namespace Go.Proofs.YtaibejlploombaaDoor.Lx
open Rt M Go

theorem sane0 : law06_sane 40 = some true := by decide +kernel
theorem sane {n : Nat} (h : 40 ≤ n) : law06_sane n = some true := law06_sane_mono h _ sane0

theorem cut_eq (n : Nat) (s : Rt.Bs) : law06_cut n s = some (s.take 900) := by
  have e : imin (s.length : Int) 900 = ((min s.length 900 : Nat) : Int) := by
    rw [imin]; split <;> omega
  have e2 : s.take (min s.length 900) = s.take 900 := by
    by_cases h : s.length ≤ 900
    · rw [Nat.min_eq_left h, List.take_of_length_le h, List.take_length]
    · rw [Nat.min_eq_right (by omega)]
  rw [law06_cut, e, ssl_to _ (by omega), Option.bind_some, e2]

theorem scanF_nil : ∀ {f : Nat} {r : Rt.Bs} {a : Nat}, (scanF f r a).2.2 ≠ 0 → (scanF f r a).1 = []
  | 0, _, _, h => absurd rfl h
  | f + 1, r, a, h => by
    by_cases h1 : gapN false r = r.length
    · rw [scanF_end h1]
    by_cases h2 : (next (r.drop (gapN false r))).2.2 = 0
    · rw [scanF_more h1 h2] at h ⊢
      split at h
      · rename_i h3; rw [if_pos h3]; exact scanF_nil h3
      · exact absurd rfl h
    · rw [scanF_bad h1 h2]
theorem scan_nil {s : Rt.Bs} (h : (scan s).2.2 ≠ 0) : (scan s).1 = [] := by
  simp only [scan] at *
  split at h
  · rename_i h1; rw [if_pos h1]
  · rename_i h1; rw [if_neg h1]; exact scanF_nil h

def total (T : List Token) : Nat := (T.map fun t => (shown t).length).sum
theorem gap_ne {r : Rt.Bs} (h : gapN false r ≠ r.length) : r.drop (gapN false r) ≠ [] := by
  intro e
  have := congrArg List.length e
  have h2 := gapN_le false r
  simp only [List.length_drop, List.length_nil] at this; omega
theorem shown_strip (t : Token) (p : Int) : shown { t with Pos := p } = shown t := rfl
theorem good_strip {t : Token} (p : Int) (h : Good t) : Good { t with Pos := p } := h

theorem scanF_ok : ∀ {f : Nat} {r : Rt.Bs} {a : Nat}, (scanF f r a).2.2 = 0 → (∀ t ∈ (scanF f r a).1, Good t) ∧ total (scanF f r a).1 ≤ r.length ∧ (scanF f r a).1.length ≤ r.length
  | 0, _, _, _ => by simp [scanF, total]
  | f + 1, r, a, h => by
    by_cases h1 : gapN false r = r.length
    · rw [scanF_end h1]; simp [total]
    by_cases h2 : (next (r.drop (gapN false r))).2.2 = 0
    · have hn := gap_ne h1
      have h4 := next_len hn h2
      obtain ⟨h5, _, h6, _⟩ := next_ok hn h2
      rw [scanF_more h1 h2] at h ⊢
      split at h
      · rename_i h3; exact absurd h h3
      · rename_i h3
        rw [if_neg h3]
        obtain ⟨i1, i2, i3⟩ := scanF_ok (Decidable.not_not.mp h3)
        simp only [List.length_drop] at i2 i3 h4
        refine ⟨?_, ?_, ?_⟩
        · intro t ht
          simp only [List.mem_cons] at ht
          rcases ht with rfl | ht
          · exact good_strip _ h5
          · exact i1 t ht
        · simp only [total, List.map_cons, List.sum_cons, shown_strip] at i2 ⊢
          omega
        · simp only [List.length_cons]; omega
    · rw [scanF_bad h1 h2] at h; exact absurd h h2

def strip (t : Token) : Token := ⟨t.Kind, t.Text, t.N, 0⟩
theorem shown_of_strip {T T' : List Token} (h : T'.map strip = T.map strip) : T'.map shown = T.map shown := by
  have e : ∀ l : List Token, l.map shown = (l.map strip).map shown := fun l => by rw [List.map_map]; rfl
  rw [e T', e T, h]

def body : List Token → Rt.Bs
  | [] => []
  | t :: T => 32 :: (shown t ++ body T)
theorem join_body : ∀ (t : Token) (T : List Token), Lib.join ((t :: T).map shown) [32] = shown t ++ body T
  | t, [] => by simp [Lib.join, body]
  | t, t2 :: T => by
    have h := join_body t2 T
    simp only [List.map_cons] at h ⊢
    have e : Lib.join (shown t :: shown t2 :: T.map shown) [32] = shown t ++ [32] ++ Lib.join (shown t2 :: T.map shown) [32] := by simp [Lib.join, List.intercalate]
    rw [e, h]
    simp [body]
theorem body_ends (T : List Token) : Ends (body T) := by
  cases T with
  | nil => exact .inl rfl
  | cons t T => exact .inr rfl
theorem gap_shown {t : Token} (h : Good t) (r : Rt.Bs) : gapN false (shown t ++ r) = 0 := by
  have h1 := shown_ne h
  obtain ⟨h2, h3⟩ := shown_head h
  cases hs : shown t with
  | nil => exact absurd hs h1
  | cons c l =>
    rw [hs] at h2 h3
    simp only [List.headD_cons] at h2 h3
    simp [gapN, h2, h3]

theorem scanF_shown {t : Token} (h : Good t) {r : Rt.Bs} (hr : Ends r) (f a : Nat) : scanF (f + 1) (shown t ++ r) a =
    if (scanF f r (a + (shown t).length)).2.2 ≠ 0 then scanF f r (a + (shown t).length) else (⟨t.Kind, t.Text, t.N, (a : Int)⟩ :: (scanF f r (a + (shown t).length)).1, 0, 0) := by
  have h1 := shown_ne h
  have hg := gap_shown h r
  have hx := next_shown h hr
  have h2 : gapN false (shown t ++ r) ≠ (shown t ++ r).length := by
    have : (shown t).length ≠ 0 := fun e => h1 (List.length_eq_zero_iff.mp e)
    rw [hg, List.length_append]; omega
  have h3 : (next ((shown t ++ r).drop (gapN false (shown t ++ r)))).2.2 = 0 := by rw [hg, List.drop_zero, hx]
  rw [scanF_more h2 h3, hg, List.drop_zero, hx]
  simp

theorem scanF_body : ∀ (T : List Token), (∀ t ∈ T, Good t) → ∀ (f a : Nat), (body T).length < f → ∃ T', scanF f (body T) a = (T', 0, 0) ∧ T'.map strip = T.map strip
  | [], _, f + 1, a, _ => ⟨[], by rw [body, scanF_end rfl], rfl⟩
  | t :: T, hT, f + 1, a, hf => by
    have ht := hT t (by simp)
    have h1 := shown_ne ht
    have h0 : (shown t).length ≠ 0 := fun e => h1 (List.length_eq_zero_iff.mp e)
    simp only [body, List.length_cons, List.length_append] at hf
    obtain ⟨T', h2, h3⟩ := scanF_body T (fun x hx => hT x (by simp [hx])) f (a + 1 + (shown t).length) (by omega)
    have hg : gapN false (32 :: (shown t ++ body T)) = 1 := by
      rw [gapN, if_pos (by decide), gap_shown ht]
    have hx := next_shown ht (body_ends T)
    have hn : gapN false (32 :: (shown t ++ body T)) ≠ (32 :: (shown t ++ body T)).length := by
      rw [hg, List.length_cons, List.length_append]; omega
    have hz : (next ((32 :: (shown t ++ body T)).drop (gapN false (32 :: (shown t ++ body T))))).2.2 = 0 := by rw [hg, List.drop_one, List.tail_cons, hx]
    refine ⟨⟨t.Kind, t.Text, t.N, ((a + 1 : Nat) : Int)⟩ :: T', ?_, by simp [h3, strip]⟩
    rw [body, scanF_more hn hz, hg, List.drop_one, List.tail_cons, hx]
    simp only
    rw [show 1 + (shown t).length = (shown t).length + 1 by omega, List.drop_succ_cons, List.drop_left' rfl, h2]
    simp

theorem body_len : ∀ T : List Token, (body T).length = total T + T.length
  | [] => rfl
  | t :: T => by
    have := body_len T
    simp only [body, List.length_cons, List.length_append, total, List.map_cons, List.sum_cons] at *
    omega

theorem print_len (T : List Token) : (print T).length ≤ total T + T.length := by
  cases T with
  | nil => simp [print, Lib.join, total]
  | cons t T =>
    rw [print, join_body]
    have := body_len T
    simp only [List.length_append, List.length_cons, total, List.map_cons, List.sum_cons] at *
    omega

theorem scan_print {T : List Token} (hT : ∀ t ∈ T, Good t) (hl : (print T).length ≤ 4000) : ∃ T', scan (print T) = (T', 0, 0) ∧ T'.map strip = T.map strip := by
  rw [scan, if_neg (by omega)]
  cases T with
  | nil => exact ⟨[], by decide, rfl⟩
  | cons t T =>
    have ht := hT t (by simp)
    have h1 := shown_ne ht
    have h0 : (shown t).length ≠ 0 := fun e => h1 (List.length_eq_zero_iff.mp e)
    have e : print (t :: T) = shown t ++ body T := by rw [print, join_body]
    rw [e] at hl ⊢
    rw [scanF_shown ht (body_ends T)]
    obtain ⟨T', h2, h3⟩ := scanF_body T (fun x hx => hT x (by simp [hx])) (shown t ++ body T).length (0 + (shown t).length) (by rw [List.length_append]; omega)
    rw [h2]
    exact ⟨⟨t.Kind, t.Text, t.N, ((0 : Nat) : Int)⟩ :: T', by simp, by simp [h3, strip]⟩

theorem shown_le (t : Token) : t.Text.length ≤ (shown t).length := by
  rw [shown]
  split
  · have := esc_len t.Text
    simp only [escaped, List.length_cons, List.length_append, List.length_nil]; omega
  · exact Nat.le_refl _
theorem total_mem : ∀ {T : List Token} {t : Token}, t ∈ T → (shown t).length ≤ total T
  | t' :: T, t, h => by
    simp only [List.mem_cons] at h
    simp only [total, List.map_cons, List.sum_cons]
    rcases h with rfl | h
    · omega
    · have := total_mem h
      simp only [total] at this; omega

/-! alike -/
theorem like_loop {A B : List Token} (hA : A.length ≤ 1000000) (h : B.map strip = A.map strip) {n : Nat} :
    ∀ {r : List Token} {i m : Nat}, A.drop i = r → i ≤ A.length → r.length < m → ref06_Like_L1 n A B (some true) m (i : Int) = some true
  | [], i, m + 1, h1, hi, _ => by
    have : i = A.length := by
      have := congrArg List.length h1
      simp only [List.length_drop, List.length_nil] at this; omega
    rw [ref06_Like_L1_s]; simp [this]
  | t :: r, i, m + 1, h1, hi, hm => by
    have h2 : i + r.length + 1 = A.length := by
      have := congrArg List.length h1
      simp only [List.length_drop, List.length_cons] at this; omega
    have h3 : A.drop (i + 1) = r := by rw [← List.drop_drop, h1, List.drop_one, List.tail_cons]
    simp only [List.length_cons] at hm
    have h4 : (B.drop i).map strip = (A.drop i).map strip := by rw [List.map_drop, h, List.map_drop]
    rw [h1] at h4
    cases h5 : B.drop i with
    | nil => rw [h5] at h4; cases h4
    | cons b B' =>
      rw [h5] at h4
      simp only [List.map_cons, List.cons.injEq, strip, Token.mk.injEq] at h4
      obtain ⟨⟨e1, e2, e3, _⟩, _⟩ := h4
      rw [ref06_Like_L1_s, decide_eq_true (by omega), cond_true, ix_drop h1, ix_drop h5]
      simp only [Option.bind_some, e1, e2, e3, bne_self_eq_false, cond_false, beq_self_eq_true, Bool.not_true]
      rw [iadd_nat1 _ (by omega)]
      exact like_loop hA h h3 (by omega) (by omega)
theorem like_eq {A B : List Token} (hA : A.length ≤ 1000000) (h : B.map strip = A.map strip) {n : Nat} (hn : A.length < n) : ref06_Like n A B = some true := by
  have h1 : B.length = A.length := by simpa using congrArg List.length h
  rw [ref06_Like, h1, bne_self_eq_false, cond_false]
  exact like_loop hA h (r := A) (i := 0) rfl (by omega) hn

theorem lexerBack (s : Rt.Bs) : law06_LexerBack 10000 s = some true := by
  have hc : (s.take 900).length ≤ 900 := by simp; omega
  rw [law06_LexerBack, sane (by omega), Option.bind_some, cut_eq, Option.bind_some, scan_eq (by omega) (by omega), Option.bind_some]
  by_cases h : (scan (s.take 900)).2.2 = 0
  · have e : scan (s.take 900) = scanF ((s.take 900).length + 1) (s.take 900) 0 := by rw [scan, if_neg (by omega)]
    obtain ⟨h1, h2, h3⟩ := scanF_ok (by rw [← e]; exact h)
    rw [← e] at h1 h2 h3
    have h4 := print_len (scan (s.take 900)).1
    obtain ⟨T', h5, h6⟩ := scan_print h1 (by omega)
    have h7 := shown_of_strip h6
    have h8 : T'.length = (scan (s.take 900)).1.length := by simpa using congrArg List.length h6
    have h9 : print T' = print (scan (s.take 900)).1 := by rw [print, h7, print]
    have ht : ∀ t ∈ (scan (s.take 900)).1, t.Text.length ≤ 1000000 := fun t ht => by
      have := total_mem ht; have := shown_le t; omega
    have ht' : ∀ t ∈ T', t.Text.length ≤ 1000000 := fun t ht => by
      have h10 : shown t ∈ T'.map shown := List.mem_map.mpr ⟨t, ht, rfl⟩
      rw [h7] at h10
      obtain ⟨t2, h11, h12⟩ := List.mem_map.mp h10
      have := total_mem h11; have := shown_le t; rw [h12] at *; omega
    simp only [h, bne_self_eq_false, cond_false]
    rw [print_eq (by omega) ht (by omega) (by omega), Option.bind_some, scan_eq (by omega) (by omega), Option.bind_some, h5]
    simp only [beq_self_eq_true, cond_true, Option.bind_some]
    rw [like_eq (by omega) h6 (by omega)]
    simp only [Option.bind_some, cond_true]
    rw [print_eq (by omega) ht' (by rw [h9]; omega) (by omega), h9]
    simp
  · have e : ((scan (s.take 900)).2.2 != 0) = true := bne_iff_ne.mpr h
    simp [e, scan_nil h]
end Go.Proofs.YtaibejlploombaaDoor.Lx
