/-
  SCANNING what was laid word by word.
-/
import Derived.Test.YtpihabofmnnbbaaDoorPrA
namespace Go.Proofs.YtpihabofmnnbbaaDoor.Pr
open Go Rt M Ta Tp

def strip (t : Token) : Token := ⟨t.Kind, t.Text, t.N, 0⟩
def Stop (r : Rt.Bs) : Prop := r = [] ∨ Lx.isInner (r.headD 0) = false
/-- a word that is read as the token t, whatever follows it -/
def Good (t : Token) : Prop := t.Pos = 0 ∧ Lx.isBlank (t.Text.headD 0) = false ∧ (t.Text.headD 0).toNat ≠ 35 ∧ t.Text ≠ [] ∧ ∀ r, Stop r → Lx.next (t.Text ++ r) = (t, t.Text.length, 0)
def Gap (g : Rt.Bs) : Prop := ∀ (c : UInt8) (r : Rt.Bs), Lx.isBlank c = false → c.toNat ≠ 35 → Lx.gapN false (g ++ c :: r) = g.length
/-- a text that consists of words, gaps between them, and a gap at its end -/
inductive Laid : Rt.Bs → List Token → Prop
  | nil {z : Rt.Bs} : Lx.gapN false z = z.length → Laid z []
  | cons {g r : Rt.Bs} {t : Token} {ws : List Token} : Gap g → Good t → Stop r → Laid r ws → Laid (g ++ (t.Text ++ r)) (t :: ws)
theorem laid_scan {r : Rt.Bs} {ws : List Token} (h : Laid r ws) : ∀ f a : Nat, r.length < f → ∃ ts, Lx.scanF f r a = (ts, 0, 0) ∧ ts.map strip = ws := by
  induction h with
  | nil h =>
    intro f a hf
    obtain ⟨f, rfl⟩ := left hf
    exact ⟨[], Lx.scanF_end h, rfl⟩
  | @cons g r t ws hg ht hr _ ih =>
    intro f a hf
    obtain ⟨f, rfl⟩ := left hf
    obtain ⟨h1, h2, h3, h4, h5⟩ := ht
    have e1 : Lx.gapN false (g ++ (t.Text ++ r)) = g.length := by
      cases hc : t.Text with
      | nil => exact absurd hc h4
      | cons c u => rw [hc] at h2 h3; exact hg c (u ++ r) h2 h3
    have e2 : (g ++ (t.Text ++ r)).drop g.length = t.Text ++ r := by simp
    have e3 : (g ++ (t.Text ++ r)).drop (g.length + t.Text.length) = r := by rw [← List.drop_drop, e2]; simp
    have hlen : 0 < t.Text.length := List.length_pos_iff.2 h4
    have hne : Lx.gapN false (g ++ (t.Text ++ r)) ≠ (g ++ (t.Text ++ r)).length := by rw [e1]; simp only [List.length_append]; omega
    obtain ⟨ts, e4, e5⟩ := ih f (a + g.length + t.Text.length) (by simp only [List.length_append] at hf; omega)
    have e6 := h5 r hr
    refine ⟨{ t with Pos := ((a + g.length : Nat) : Int) } :: ts, ?_, ?_⟩
    · rw [Lx.scanF_more hne (by rw [e1, e2, e6]), e1, e2, e6]
      dsimp only
      rw [e3, e4]
      rfl
    · rw [List.map_cons, e5]
      obtain ⟨k, s, n, p⟩ := t
      obtain rfl : p = 0 := h1
      rfl
theorem laid_whole {r : Rt.Bs} {ws : List Token} (h : Laid r ws) (hr : r.length ≤ 4000) : ∃ ts, Lx.scan r = (ts, 0, 0) ∧ ts.map strip = ws := by
  unfold Lx.scan
  rw [if_neg (by omega)]
  exact laid_scan h _ _ (by omega)

theorem gap_plain {c : UInt8} {r : Rt.Bs} (h : Lx.isBlank c = false) (h2 : c.toNat ≠ 35) : Lx.gapN false (c :: r) = 0 := by
  rw [Lx.gapN, h, if_neg (by decide), if_neg h2]
theorem gap_nil : Gap [] := fun _ _ h h2 => gap_plain h h2
theorem gap_blank {g : Rt.Bs} {b : UInt8} (hb : Lx.isBlank b = true) (hg : Gap g) : Gap (b :: g) := fun c r h h2 => by
  show Lx.gapN false (b :: (g ++ c :: r)) = g.length + 1
  rw [Lx.gapN, hb, if_pos rfl, hg c r h h2]
theorem gap_one : Gap [32] := gap_blank (by decide) gap_nil

/-! words -/
theorem span_stop {p : UInt8 → Bool} : ∀ {s r : Rt.Bs}, Lx.spanN p s = s.length → (r = [] ∨ p (r.headD 0) = false) → Lx.spanN p (s ++ r) = s.length
  | [], r, _, h => by
    rcases h with rfl | h
    · rfl
    · cases r with
      | nil => rfl
      | cons c u =>
        have h : p c = false := h
        show Lx.spanN p (c :: u) = 0
        rw [Lx.spanN, h]; rfl
  | c :: s, r, h1, h => by
    have hle := Lx.spanN_le p s
    rw [Lx.spanN] at h1
    cases hp : p c with
    | false => rw [hp] at h1; simp at h1
    | true =>
      rw [hp, cond_true] at h1
      show Lx.spanN p (c :: (s ++ r)) = s.length + 1
      rw [Lx.spanN, hp, cond_true, span_stop (by simpa using h1) h]
theorem span_all {p : UInt8 → Bool} : ∀ {s : Rt.Bs}, (∀ c, c ∈ s → p c = true) → Lx.spanN p s = s.length
  | [], _ => rfl
  | c :: s, h => by rw [Lx.spanN, h c (by simp), cond_true, span_all (fun d hd => h d (by simp [hd]))]; rfl
theorem byte_of {p : UInt8 → Bool} (h : (List.range 256).all (fun k => p (UInt8.ofNat k)) = true) (c : UInt8) : p c = true := Lx.byte_all h c
theorem letter_plain (c : UInt8) (h : Lx.isLetter c = true) : Lx.isBlank c = false ∧ c.toNat ≠ 35 :=
  of_decide_eq_true (byte_of (p := fun c => decide (Lx.isLetter c = true → Lx.isBlank c = false ∧ c.toNat ≠ 35)) (by decide +kernel) c) h
theorem digit_plain (c : UInt8) (h : Lx.isDigit c = true) : Lx.isBlank c = false ∧ c.toNat ≠ 35 ∧ Lx.isLetter c = false ∧ Lx.isInner c = true :=
  of_decide_eq_true (byte_of (p := fun c => decide (Lx.isDigit c = true → Lx.isBlank c = false ∧ c.toNat ≠ 35 ∧ Lx.isLetter c = false ∧ Lx.isInner c = true)) (by decide +kernel) c) h
theorem sign_plain (c : UInt8) (h : Lx.isSign c = true) : Lx.isBlank c = false ∧ c.toNat ≠ 35 ∧ Lx.isLetter c = false ∧ Lx.isDigit c = false ∧ c.toNat ≠ 34 ∧ Lx.isInner c = false :=
  of_decide_eq_true (byte_of (p := fun c => decide (Lx.isSign c = true → Lx.isBlank c = false ∧ c.toNat ≠ 35 ∧ Lx.isLetter c = false ∧ Lx.isDigit c = false ∧ c.toNat ≠ 34 ∧ Lx.isInner c = false)) (by decide +kernel) c) h
theorem head_app {s r : Rt.Bs} (h : s ≠ []) : (s ++ r).headD 0 = s.headD 0 := by
  cases s with
  | nil => exact absurd rfl h
  | cons c u => rfl
def wN (s : Rt.Bs) : Token := ⟨0, s, 0, 0⟩
def wS (c : UInt8) : Token := ⟨3, [c], 0, 0⟩
def wK (n : Int) : Token := ⟨1, Lib.itoa n, n, 0⟩
theorem good_name {s : Rt.Bs} (h : Lx.name s = true) : Good (wN s) := by
  have h0 := h
  unfold Lx.name at h
  simp only [Bool.and_eq_true, decide_eq_true_eq, beq_iff_eq, Bool.not_eq_true', List.isEmpty_eq_false_iff] at h
  obtain ⟨⟨⟨h1, h2⟩, h3⟩, h4⟩ := h
  have h5 := letter_plain _ h2
  refine ⟨rfl, h5.1, h5.2, h1, fun r hr => ?_⟩
  show Lx.next (s ++ r) = (wN s, s.length, 0)
  unfold Lx.next
  rw [head_app h1, h2, if_pos rfl, span_stop h4 hr, List.take_left, h0, if_pos rfl]; rfl
theorem good_sign {c : UInt8} (h : Lx.isSign c = true) : Good (wS c) := by
  obtain ⟨h1, h2, h3, h4, h5, _⟩ := sign_plain c h
  refine ⟨rfl, h1, h2, by simp [wS], fun r _ => ?_⟩
  show Lx.next (c :: r) = (wS c, 1, 0)
  unfold Lx.next
  rw [List.headD_cons, h3, if_neg (by decide), h4, if_neg (by decide), if_neg h5, h, if_pos rfl]; rfl
/-! numerals -/
theorem dec_snoc (l : Rt.Bs) (c : UInt8) : Lx.dec (l ++ [c]) = 10 * Lx.dec l + (c.toNat - 48) := by unfold Lx.dec; rw [List.foldl_append]; rfl
theorem dig_nat {k : Nat} (h : k < 10) : (UInt8.ofNat (48 + k)).toNat = 48 + k := by simp; omega
theorem dig_is {k : Nat} (h : k < 10) : Lx.isDigit (UInt8.ofNat (48 + k)) = true := by
  unfold Lx.isDigit; rw [dig_nat h]; exact decide_eq_true (by omega)
theorem dec_of (u : Nat) : Lx.dec (Lib.decDigits u) = u ∧ (∀ c, c ∈ Lib.decDigits u → Lx.isDigit c = true) ∧ Lib.decDigits u ≠ [] ∧ (u ≠ 0 → ((Lib.decDigits u).headD 0).toNat ≠ 48) := by
  induction u using Nat.strongRecOn with
  | _ u ih =>
    by_cases h : u < 10
    · rw [Lib.decDigits, dif_pos h]
      refine ⟨?_, ?_, by simp, ?_⟩
      · show 10 * 0 + ((UInt8.ofNat (48 + u)).toNat - 48) = u
        rw [dig_nat h]; omega
      · intro c hc
        obtain rfl := List.mem_singleton.1 hc
        exact dig_is h
      · intro h0
        show (UInt8.ofNat (48 + u)).toNat ≠ 48
        rw [dig_nat h]; omega
    · rw [Lib.decDigits, dif_neg h]
      obtain ⟨i1, i2, i3, i4⟩ := ih (u / 10) (by omega)
      refine ⟨?_, ?_, by simp, fun _ => ?_⟩
      · rw [dec_snoc, i1, dig_nat (by omega)]; omega
      · intro c hc
        rcases List.mem_append.1 hc with hc | hc
        · exact i2 c hc
        · obtain rfl := List.mem_singleton.1 hc
          exact dig_is (by omega)
      · rw [head_app i3]; exact i4 (by omega)
theorem nDigits_le : ∀ (k u : Nat), u < 10 ^ (k + 1) → Lib.nDigits u ≤ k + 1
  | 0, u, h => by rw [Lib.nDigits_small (by simpa using h)]; omega
  | k + 1, u, h => by
    by_cases h1 : u < 10
    · rw [Lib.nDigits_small h1]; omega
    · rw [Lib.nDigits_big h1]
      have := nDigits_le k (u / 10) (by rw [Nat.pow_succ] at h; omega)
      omega
theorem num_of {u : Nat} (h : u ≤ 1099511627776) : Lx.number (Lib.decDigits u) = (u, true) ∧ (Lib.decDigits u).length ≤ 13 := by
  obtain ⟨h1, h2, h3, h4⟩ := dec_of u
  have h5 := span_all h2
  have h6 : (Lib.decDigits u).length ≤ 13 := by rw [Lib.decDigits_length]; exact nDigits_le 12 u (by omega)
  have h7 : Lx.numberOk (Lib.decDigits u) = true := by
    unfold Lx.numberOk
    have e1 : (Lib.decDigits u).isEmpty = false := by simpa using h3
    have e2 : (!((Lib.decDigits u).headD 0 == 48 && !(Lib.decDigits u == [48]))) = true := by
      by_cases h0 : u = 0
      · subst h0; rw [Lib.decDigits]; rfl
      · have : ((Lib.decDigits u).headD 0 == 48) = false := by
          rw [beq_eq_false_iff_ne]
          intro e
          exact h4 h0 (by rw [e]; rfl)
        rw [this]; rfl
    rw [e1, h5, e2, decide_eq_true h6, beq_self_eq_true]; rfl
  refine ⟨?_, h6⟩
  unfold Lx.number
  rw [if_pos ⟨h7, by rw [h1]; exact h⟩, h1]
theorem itoa_nat {n : Int} (h : 0 ≤ n) : Lib.itoa n = Lib.decDigits n.toNat := by unfold Lib.itoa; rw [if_neg (by omega)]
theorem good_num {n : Int} (h : 0 ≤ n) (h2 : n ≤ 1099511627776) : Good (wK n) := by
  obtain ⟨_, g2, g3, _⟩ := dec_of n.toNat
  obtain ⟨h3, _⟩ := num_of (u := n.toNat) (by omega)
  have e : wK n = ⟨1, Lib.decDigits n.toNat, n, 0⟩ := by unfold wK; rw [itoa_nat h]
  have hd : Lx.isDigit ((Lib.decDigits n.toNat).headD 0) = true := by
    cases hc : Lib.decDigits n.toNat with
    | nil => exact absurd hc g3
    | cons c u => exact g2 c (by rw [hc]; simp)
  obtain ⟨p1, p2, p3, _⟩ := digit_plain _ hd
  rw [e]
  refine ⟨rfl, p1, p2, g3, fun r hr => ?_⟩
  show Lx.next (Lib.decDigits n.toNat ++ r) = (⟨1, Lib.decDigits n.toNat, n, 0⟩, (Lib.decDigits n.toNat).length, 0)
  have hr2 : r = [] ∨ Lx.isDigit (r.headD 0) = false := by
    rcases hr with hr | hr
    · exact .inl hr
    · refine .inr ?_
      cases hx : Lx.isDigit (r.headD 0) with
      | false => rfl
      | true => have := (digit_plain _ hx).2.2.2; rw [hr] at this; cases this
  unfold Lx.next
  rw [head_app g3, p3, if_neg (by decide), hd, if_pos rfl, span_stop (span_all g2) hr2, List.take_left, h3, if_pos rfl]
  show ((⟨1, Lib.decDigits n.toNat, ((n.toNat : Nat) : Int), 0⟩ : Token), (Lib.decDigits n.toNat).length, (0 : Int)) = _
  rw [Int.toNat_of_nonneg h]
end Go.Proofs.YtpihabofmnnbbaaDoor.Pr
