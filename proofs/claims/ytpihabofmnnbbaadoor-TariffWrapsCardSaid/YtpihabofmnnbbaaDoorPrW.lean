/- Several texts in one. -/
import Derived.Test.YtpihabofmnnbbaaDoorPrA
import Derived.Test.YtpihabofmnnbbaaDoorMirC
import Derived.Test.YtpihabofmnnbbaaDoorMirD4
/-
  SCANNING what was laid word by word.
-/
namespace Go.Proofs.YtpihabofmnnbbaaDoor.Pr
open Go Rt M Ta Tp

def strip (t : Token) : Token := ⟨t.Kind, t.Text, t.N, 0⟩
def Stop (r : Rt.Bs) : Prop := r = [] ∨ Lx.isInner (r.headD 0) = false
/-- a word that is read as the token t, whatever follows it -/
def Good (t : Token) : Prop := t.Pos = 0 ∧ Lx.isBlank (t.Text.headD 0) = false ∧ (t.Text.headD 0).toNat ≠ 35 ∧ t.Text ≠ [] ∧ ∀ r, Stop r → Lx.next (t.Text ++ r) = (t, t.Text.length, 0)
def Gap (g : Rt.Bs) : Prop := ∀ (c : UInt8) (r : Rt.Bs), Lx.isBlank c = false → c.toNat ≠ 35 → Lx.gapN false (g ++ c :: r) = g.length
/-- a text that consists of words, gaps between them, and a gap at its end -/
inductive Laid : Rt.Bs → List Token → Prop
  | nil {z : Rt.Bs} : Lx.gapN false z = z.length → Laid z []
  | cons {g r : Rt.Bs} {t : Token} {ws : List Token} : Gap g → Good t → Stop r → Laid r ws → Laid (g ++ (t.Text ++ r)) (t :: ws)
theorem laid_scan {r : Rt.Bs} {ws : List Token} (h : Laid r ws) : ∀ f a : Nat, r.length < f → ∃ ts, Lx.scanF f r a = (ts, 0, 0) ∧ ts.map strip = ws := by
  induction h with
  | nil h =>
    intro f a hf
    obtain ⟨f, rfl⟩ := left hf
    exact ⟨[], Lx.scanF_end h, rfl⟩
  | @cons g r t ws hg ht hr _ ih =>
    intro f a hf
    obtain ⟨f, rfl⟩ := left hf
    obtain ⟨h1, h2, h3, h4, h5⟩ := ht
    have e1 : Lx.gapN false (g ++ (t.Text ++ r)) = g.length := by
      cases hc : t.Text with
      | nil => exact absurd hc h4
      | cons c u => rw [hc] at h2 h3; exact hg c (u ++ r) h2 h3
    have e2 : (g ++ (t.Text ++ r)).drop g.length = t.Text ++ r := by simp
    have e3 : (g ++ (t.Text ++ r)).drop (g.length + t.Text.length) = r := by rw [← List.drop_drop, e2]; simp
    have hlen : 0 < t.Text.length := List.length_pos_iff.2 h4
    have hne : Lx.gapN false (g ++ (t.Text ++ r)) ≠ (g ++ (t.Text ++ r)).length := by rw [e1]; simp only [List.length_append]; omega
    obtain ⟨ts, e4, e5⟩ := ih f (a + g.length + t.Text.length) (by simp only [List.length_append] at hf; omega)
    have e6 := h5 r hr
    refine ⟨{ t with Pos := ((a + g.length : Nat) : Int) } :: ts, ?_, ?_⟩
    · rw [Lx.scanF_more hne (by rw [e1, e2, e6]), e1, e2, e6]
      dsimp only
      rw [e3, e4]
      rfl
    · rw [List.map_cons, e5]
      obtain ⟨k, s, n, p⟩ := t
      obtain rfl : p = 0 := h1
      rfl
theorem laid_whole {r : Rt.Bs} {ws : List Token} (h : Laid r ws) (hr : r.length ≤ 4000) : ∃ ts, Lx.scan r = (ts, 0, 0) ∧ ts.map strip = ws := by
  unfold Lx.scan
  rw [if_neg (by omega)]
  exact laid_scan h _ _ (by omega)

theorem gap_plain {c : UInt8} {r : Rt.Bs} (h : Lx.isBlank c = false) (h2 : c.toNat ≠ 35) : Lx.gapN false (c :: r) = 0 := by
  rw [Lx.gapN, h, if_neg (by decide), if_neg h2]
theorem gap_nil : Gap [] := fun _ _ h h2 => gap_plain h h2
theorem gap_blank {g : Rt.Bs} {b : UInt8} (hb : Lx.isBlank b = true) (hg : Gap g) : Gap (b :: g) := fun c r h h2 => by
  show Lx.gapN false (b :: (g ++ c :: r)) = g.length + 1
  rw [Lx.gapN, hb, if_pos rfl, hg c r h h2]
theorem gap_one : Gap [32] := gap_blank (by decide) gap_nil

/-! words -/
theorem span_stop {p : UInt8 → Bool} : ∀ {s r : Rt.Bs}, Lx.spanN p s = s.length → (r = [] ∨ p (r.headD 0) = false) → Lx.spanN p (s ++ r) = s.length
  | [], r, _, h => by
    rcases h with rfl | h
    · rfl
    · cases r with
      | nil => rfl
      | cons c u =>
        have h : p c = false := h
        show Lx.spanN p (c :: u) = 0
        rw [Lx.spanN, h]; rfl
  | c :: s, r, h1, h => by
    have hle := Lx.spanN_le p s
    rw [Lx.spanN] at h1
    cases hp : p c with
    | false => rw [hp] at h1; simp at h1
    | true =>
      rw [hp, cond_true] at h1
      show Lx.spanN p (c :: (s ++ r)) = s.length + 1
      rw [Lx.spanN, hp, cond_true, span_stop (by simpa using h1) h]
theorem span_all {p : UInt8 → Bool} : ∀ {s : Rt.Bs}, (∀ c, c ∈ s → p c = true) → Lx.spanN p s = s.length
  | [], _ => rfl
  | c :: s, h => by rw [Lx.spanN, h c (by simp), cond_true, span_all (fun d hd => h d (by simp [hd]))]; rfl
theorem byte_of {p : UInt8 → Bool} (h : (List.range 256).all (fun k => p (UInt8.ofNat k)) = true) (c : UInt8) : p c = true := Lx.byte_all h c
theorem letter_plain (c : UInt8) (h : Lx.isLetter c = true) : Lx.isBlank c = false ∧ c.toNat ≠ 35 :=
  of_decide_eq_true (byte_of (p := fun c => decide (Lx.isLetter c = true → Lx.isBlank c = false ∧ c.toNat ≠ 35)) (by decide +kernel) c) h
theorem digit_plain (c : UInt8) (h : Lx.isDigit c = true) : Lx.isBlank c = false ∧ c.toNat ≠ 35 ∧ Lx.isLetter c = false ∧ Lx.isInner c = true :=
  of_decide_eq_true (byte_of (p := fun c => decide (Lx.isDigit c = true → Lx.isBlank c = false ∧ c.toNat ≠ 35 ∧ Lx.isLetter c = false ∧ Lx.isInner c = true)) (by decide +kernel) c) h
theorem sign_plain (c : UInt8) (h : Lx.isSign c = true) : Lx.isBlank c = false ∧ c.toNat ≠ 35 ∧ Lx.isLetter c = false ∧ Lx.isDigit c = false ∧ c.toNat ≠ 34 ∧ Lx.isInner c = false :=
  of_decide_eq_true (byte_of (p := fun c => decide (Lx.isSign c = true → Lx.isBlank c = false ∧ c.toNat ≠ 35 ∧ Lx.isLetter c = false ∧ Lx.isDigit c = false ∧ c.toNat ≠ 34 ∧ Lx.isInner c = false)) (by decide +kernel) c) h
theorem head_app {s r : Rt.Bs} (h : s ≠ []) : (s ++ r).headD 0 = s.headD 0 := by
  cases s with
  | nil => exact absurd rfl h
  | cons c u => rfl
def wN (s : Rt.Bs) : Token := ⟨0, s, 0, 0⟩
def wS (c : UInt8) : Token := ⟨3, [c], 0, 0⟩
def wK (n : Int) : Token := ⟨1, Lib.itoa n, n, 0⟩
theorem good_name {s : Rt.Bs} (h : Lx.name s = true) : Good (wN s) := by
  have h0 := h
  unfold Lx.name at h
  simp only [Bool.and_eq_true, decide_eq_true_eq, beq_iff_eq, Bool.not_eq_true', List.isEmpty_eq_false_iff] at h
  obtain ⟨⟨⟨h1, h2⟩, h3⟩, h4⟩ := h
  have h5 := letter_plain _ h2
  refine ⟨rfl, h5.1, h5.2, h1, fun r hr => ?_⟩
  show Lx.next (s ++ r) = (wN s, s.length, 0)
  unfold Lx.next
  rw [head_app h1, h2, if_pos rfl, span_stop h4 hr, List.take_left, h0, if_pos rfl]; rfl
theorem good_sign {c : UInt8} (h : Lx.isSign c = true) : Good (wS c) := by
  obtain ⟨h1, h2, h3, h4, h5, _⟩ := sign_plain c h
  refine ⟨rfl, h1, h2, by simp [wS], fun r _ => ?_⟩
  show Lx.next (c :: r) = (wS c, 1, 0)
  unfold Lx.next
  rw [List.headD_cons, h3, if_neg (by decide), h4, if_neg (by decide), if_neg h5, h, if_pos rfl]; rfl
/-! numerals -/
theorem dec_snoc (l : Rt.Bs) (c : UInt8) : Lx.dec (l ++ [c]) = 10 * Lx.dec l + (c.toNat - 48) := by unfold Lx.dec; rw [List.foldl_append]; rfl
theorem dig_nat {k : Nat} (h : k < 10) : (UInt8.ofNat (48 + k)).toNat = 48 + k := by simp; omega
theorem dig_is {k : Nat} (h : k < 10) : Lx.isDigit (UInt8.ofNat (48 + k)) = true := by
  unfold Lx.isDigit; rw [dig_nat h]; exact decide_eq_true (by omega)
theorem dec_of (u : Nat) : Lx.dec (Lib.decDigits u) = u ∧ (∀ c, c ∈ Lib.decDigits u → Lx.isDigit c = true) ∧ Lib.decDigits u ≠ [] ∧ (u ≠ 0 → ((Lib.decDigits u).headD 0).toNat ≠ 48) := by
  induction u using Nat.strongRecOn with
  | _ u ih =>
    by_cases h : u < 10
    · rw [Lib.decDigits, dif_pos h]
      refine ⟨?_, ?_, by simp, ?_⟩
      · show 10 * 0 + ((UInt8.ofNat (48 + u)).toNat - 48) = u
        rw [dig_nat h]; omega
      · intro c hc
        obtain rfl := List.mem_singleton.1 hc
        exact dig_is h
      · intro h0
        show (UInt8.ofNat (48 + u)).toNat ≠ 48
        rw [dig_nat h]; omega
    · rw [Lib.decDigits, dif_neg h]
      obtain ⟨i1, i2, i3, i4⟩ := ih (u / 10) (by omega)
      refine ⟨?_, ?_, by simp, fun _ => ?_⟩
      · rw [dec_snoc, i1, dig_nat (by omega)]; omega
      · intro c hc
        rcases List.mem_append.1 hc with hc | hc
        · exact i2 c hc
        · obtain rfl := List.mem_singleton.1 hc
          exact dig_is (by omega)
      · rw [head_app i3]; exact i4 (by omega)
theorem nDigits_le : ∀ (k u : Nat), u < 10 ^ (k + 1) → Lib.nDigits u ≤ k + 1
  | 0, u, h => by rw [Lib.nDigits_small (by simpa using h)]; omega
  | k + 1, u, h => by
    by_cases h1 : u < 10
    · rw [Lib.nDigits_small h1]; omega
    · rw [Lib.nDigits_big h1]
      have := nDigits_le k (u / 10) (by rw [Nat.pow_succ] at h; omega)
      omega
theorem num_of {u : Nat} (h : u ≤ 1099511627776) : Lx.number (Lib.decDigits u) = (u, true) ∧ (Lib.decDigits u).length ≤ 13 := by
  obtain ⟨h1, h2, h3, h4⟩ := dec_of u
  have h5 := span_all h2
  have h6 : (Lib.decDigits u).length ≤ 13 := by rw [Lib.decDigits_length]; exact nDigits_le 12 u (by omega)
  have h7 : Lx.numberOk (Lib.decDigits u) = true := by
    unfold Lx.numberOk
    have e1 : (Lib.decDigits u).isEmpty = false := by simpa using h3
    have e2 : (!((Lib.decDigits u).headD 0 == 48 && !(Lib.decDigits u == [48]))) = true := by
      by_cases h0 : u = 0
      · subst h0; rw [Lib.decDigits]; rfl
      · have : ((Lib.decDigits u).headD 0 == 48) = false := by
          rw [beq_eq_false_iff_ne]
          intro e
          exact h4 h0 (by rw [e]; rfl)
        rw [this]; rfl
    rw [e1, h5, e2, decide_eq_true h6, beq_self_eq_true]; rfl
  refine ⟨?_, h6⟩
  unfold Lx.number
  rw [if_pos ⟨h7, by rw [h1]; exact h⟩, h1]
theorem itoa_nat {n : Int} (h : 0 ≤ n) : Lib.itoa n = Lib.decDigits n.toNat := by unfold Lib.itoa; rw [if_neg (by omega)]
theorem good_num {n : Int} (h : 0 ≤ n) (h2 : n ≤ 1099511627776) : Good (wK n) := by
  obtain ⟨_, g2, g3, _⟩ := dec_of n.toNat
  obtain ⟨h3, _⟩ := num_of (u := n.toNat) (by omega)
  have e : wK n = ⟨1, Lib.decDigits n.toNat, n, 0⟩ := by unfold wK; rw [itoa_nat h]
  have hd : Lx.isDigit ((Lib.decDigits n.toNat).headD 0) = true := by
    cases hc : Lib.decDigits n.toNat with
    | nil => exact absurd hc g3
    | cons c u => exact g2 c (by rw [hc]; simp)
  obtain ⟨p1, p2, p3, _⟩ := digit_plain _ hd
  rw [e]
  refine ⟨rfl, p1, p2, g3, fun r hr => ?_⟩
  show Lx.next (Lib.decDigits n.toNat ++ r) = (⟨1, Lib.decDigits n.toNat, n, 0⟩, (Lib.decDigits n.toNat).length, 0)
  have hr2 : r = [] ∨ Lx.isDigit (r.headD 0) = false := by
    rcases hr with hr | hr
    · exact .inl hr
    · refine .inr ?_
      cases hx : Lx.isDigit (r.headD 0) with
      | false => rfl
      | true => have := (digit_plain _ hx).2.2.2; rw [hr] at this; cases this
  unfold Lx.next
  rw [head_app g3, p3, if_neg (by decide), hd, if_pos rfl, span_stop (span_all g2) hr2, List.take_left, h3, if_pos rfl]
  show ((⟨1, Lib.decDigits n.toNat, ((n.toNat : Nat) : Int), 0⟩ : Token), (Lib.decDigits n.toNat).length, (0 : Int)) = _
  rw [Int.toNat_of_nonneg h]
end Go.Proofs.YtpihabofmnnbbaaDoor.Pr

/-
  THE WORDS of a printed expression.
-/
namespace Go.Proofs.YtpihabofmnnbbaaDoor.Pr
open Go Rt M Ta Tp

/-- words, a blank before each -/
def sp : List Token → Rt.Bs
  | [] => []
  | t :: ws => 32 :: (t.Text ++ sp ws)
theorem sp_app : ∀ a b : List Token, sp (a ++ b) = sp a ++ sp b
  | [], _ => rfl
  | t :: a, b => by show 32 :: (t.Text ++ sp (a ++ b)) = 32 :: (t.Text ++ sp a) ++ sp b; rw [sp_app a b]; simp
theorem sp_stop (ws : List Token) : Stop (sp ws) := by
  cases ws with
  | nil => exact .inl rfl
  | cons t ws => exact .inr (show Lx.isInner 32 = false by decide)
theorem sp_laid : ∀ {ws : List Token}, (∀ t, t ∈ ws → Good t) → Laid (sp ws) ws
  | [], _ => Laid.nil rfl
  | t :: ws, h => Laid.cons (g := [32]) gap_one (h t (by simp)) (sp_stop ws) (sp_laid fun u hu => h u (by simp [hu]))

def opw (o : Int) : Token := ⟨if o = 15 ∨ o = 16 then 0 else 3, sgn o, 0, 0⟩
def wdo (o n : Int) (s : Rt.Bs) : List (List Token × List Token) → List Token
  | [] => if o = 0 then [wK n] else if o = 2 then [wN [112, 101, 114, 115, 111, 110, 115]] else if o = 3 then [wN [102, 108, 97, 116, 115]] else [wN (if o = 1 then [108, 105, 102, 116, 115] else [119, 101, 105, 103, 104, 116]), wS 40, wN s, wS 41]
  | [a] => wN [110, 111, 116] :: a.2
  | [a, b] => if o = 9 ∨ o = 10 then wN (if o = 9 then [109, 105, 110] else [109, 97, 120]) :: wS 40 :: (a.1 ++ wS 44 :: (b.1 ++ [wS 41])) else a.2 ++ opw o :: b.2
  | a :: b :: c :: _ => wN [105, 102] :: (a.2 ++ wN [116, 104, 101, 110] :: (b.2 ++ wN [101, 108, 115, 101] :: c.2))
def wdp (o : Int) (l : List M.Expr) (w : List Token) : List Token := bif (!l.isEmpty && o != 9) && o != 10 then wS 40 :: (w ++ [wS 41]) else w
mutual
/-- the words of an expression, and those of an Arg -/
def wa : M.Expr → List Token × List Token
  | ⟨o, n, s, l⟩ => (wdo o n s (was l), wdp o l (wdo o n s (was l)))
def was : List M.Expr → List (List Token × List Token)
  | [] => []
  | x :: l => wa x :: was l
 end
def W1 (x : M.Expr) : Prop := 32 :: (ta x).1 = sp (wa x).1 ∧ (∀ t, t ∈ (wa x).1 → Good t) ∧ (ta x).1.length ≤ 31 * cnt x
def W2 (x : M.Expr) : Prop := 32 :: (ta x).2 = sp (wa x).2 ∧ (∀ t, t ∈ (wa x).2 → Good t) ∧ (ta x).2.length ≤ 31 * cnt x
theorem good40 : Good (wS 40) := good_sign (by decide)
theorem good41 : Good (wS 41) := good_sign (by decide)
theorem good44 : Good (wS 44) := good_sign (by decide)
theorem word2 {o n : Int} {s : Rt.Bs} {l : List M.Expr} (h1 : 32 :: (ta ⟨o, n, s, l⟩).1 = sp (wa ⟨o, n, s, l⟩).1) (h2 : ∀ t, t ∈ (wa ⟨o, n, s, l⟩).1 → Good t) (h3 : (ta ⟨o, n, s, l⟩).1.length ≤ 31 * cnt ⟨o, n, s, l⟩) (h4 : l ≠ [] → (ta ⟨o, n, s, l⟩).1.length + 4 ≤ 31 * cnt ⟨o, n, s, l⟩) : W1 ⟨o, n, s, l⟩ ∧ W2 ⟨o, n, s, l⟩ := by
  refine ⟨⟨h1, h2, h3⟩, ?_⟩
  have e : (ta ⟨o, n, s, l⟩).2 = ato o l (ta ⟨o, n, s, l⟩).1 := rfl
  have e2 : (wa ⟨o, n, s, l⟩).2 = wdp o l (wa ⟨o, n, s, l⟩).1 := rfl
  unfold W2
  rw [e, e2]; unfold ato wdp
  cases hb : (!l.isEmpty && o != 9) && o != 10 with
  | true =>
    have hl : l ≠ [] := by
      intro h0
      rw [h0] at hb; cases hb
    have := h4 hl
    refine ⟨?_, ?_, ?_⟩
    · rw [cond_true, cond_true]
      show _ = 32 :: 40 :: sp (_ ++ [wS 41])
      rw [sp_app, ← h1]
      show _ = 32 :: 40 :: ((32 :: (ta ⟨o, n, s, l⟩).1) ++ [32, 41])
      simp
    · intro t ht
      rw [cond_true] at ht
      rcases List.mem_cons.1 ht with rfl | ht
      · exact good40
      · rcases List.mem_append.1 ht with ht | ht
        · exact h2 t ht
        · obtain rfl := List.mem_singleton.1 ht
          exact good41
    · simp only [cond_true, List.length_append, List.length_cons, List.length_nil]; omega
  | false => exact ⟨h1, h2, h3⟩
theorem opw_good {o : Int} (ho : o = 5 ∨ o = 6 ∨ o = 7 ∨ o = 8 ∨ o = 12 ∨ o = 13 ∨ o = 15 ∨ o = 16) : Good (opw o) := by
  rcases ho with rfl | rfl | rfl | rfl | rfl | rfl | rfl | rfl
  · exact good_sign (c := 43) (by decide)
  · exact good_sign (c := 45) (by decide)
  · exact good_sign (c := 42) (by decide)
  · exact good_sign (c := 47) (by decide)
  · exact good_sign (c := 60) (by decide)
  · exact good_sign (c := 61) (by decide)
  · exact good_name (s := [97, 110, 100]) (by decide)
  · exact good_name (s := [111, 114]) (by decide)
theorem words_ok {x : M.Expr} (hs : Shx x) : W1 x ∧ W2 x := by
  induction hs with
  | @mk o n s l h0 h16 hl hno _ ih =>
    have hcc : cnt ⟨o, n, s, l⟩ = cnts l + 1 := rfl
    have leaf : l = [] → 32 :: (ta ⟨o, n, s, l⟩).1 = sp (wa ⟨o, n, s, l⟩).1 → (∀ t, t ∈ (wa ⟨o, n, s, l⟩).1 → Good t) → (ta ⟨o, n, s, l⟩).1.length ≤ 31 → W1 ⟨o, n, s, l⟩ ∧ W2 ⟨o, n, s, l⟩ := fun e h1 h2 h3 =>
      word2 h1 h2 (by omega) (fun h => absurd e h)
    have bin : (o = 5 ∨ o = 6 ∨ o = 7 ∨ o = 8 ∨ o = 12 ∨ o = 13 ∨ o = 15 ∨ o = 16) → W1 ⟨o, n, s, l⟩ ∧ W2 ⟨o, n, s, l⟩ := by
      intro ho
      have hl2 : l.length = 2 := shx_len hl (by unfold argsN; rw [if_neg (by omega), if_neg (by omega), if_neg (by omega)]; rfl)
      obtain ⟨a, b, rfl⟩ : ∃ a b, l = [a, b] := by
        match l, hl2 with
        | [a, b], _ => exact ⟨a, b, rfl⟩
      have hcab : cnt ⟨o, n, s, [a, b]⟩ = cnt a + (cnt b + 0) + 1 := rfl
      obtain ⟨_, ea, ga, la⟩ := ih a (by simp)
      obtain ⟨_, eb, gb, lb⟩ := ih b (by simp)
      have hsg : (sgn o).length ≤ 3 := by rcases ho with rfl | rfl | rfl | rfl | rfl | rfl | rfl | rfl <;> decide
      have et : (ta ⟨o, n, s, [a, b]⟩).1 = ((((ta a).2 ++ [32]) ++ sgn o) ++ [32]) ++ (ta b).2 := by
        show (if o = 9 then _ else if o = 10 then _ else (((ta a).2 ++ [32]) ++ sgn o) ++ [32] ++ (ta b).2) = _
        rw [if_neg (by omega), if_neg (by omega)]
      have ew : (wa ⟨o, n, s, [a, b]⟩).1 = (wa a).2 ++ opw o :: (wa b).2 := by
        show (if o = 9 ∨ o = 10 then _ else (wa a).2 ++ opw o :: (wa b).2) = _
        rw [if_neg (by omega)]
      refine word2 ?_ ?_ ?_ (fun _ => ?_)
      · rw [et, ew, sp_app]
        show _ = sp (wa a).2 ++ 32 :: (sgn o ++ sp (wa b).2)
        rw [← ea, ← eb]; simp
      · intro t ht
        rw [ew] at ht
        rcases List.mem_append.1 ht with ht | ht
        · exact ga t ht
        · rcases List.mem_cons.1 ht with rfl | ht
          · exact opw_good ho
          · exact gb t ht
      all_goals rw [et]; simp only [List.length_append, List.length_cons, List.length_nil]; omega
    have mm : ∀ (k : Rt.Bs), Lx.name k = true → k.length = 3 → (o = 9 ∧ k = [109, 105, 110] ∨ o = 10 ∧ k = [109, 97, 120]) → W1 ⟨o, n, s, l⟩ ∧ W2 ⟨o, n, s, l⟩ := by
      intro k hk hk3 ho
      have hl2 : l.length = 2 := shx_len hl (by rcases ho with ⟨rfl, _⟩ | ⟨rfl, _⟩ <;> rfl)
      obtain ⟨a, b, rfl⟩ : ∃ a b, l = [a, b] := by
        match l, hl2 with
        | [a, b], _ => exact ⟨a, b, rfl⟩
      have hcab : cnt ⟨o, n, s, [a, b]⟩ = cnt a + (cnt b + 0) + 1 := rfl
      obtain ⟨⟨ea, ga, la⟩, _⟩ := ih a (by simp)
      obtain ⟨⟨eb, gb, lb⟩, _⟩ := ih b (by simp)
      have et : (ta ⟨o, n, s, [a, b]⟩).1 = (((k ++ [32, 40, 32] ++ (ta a).1) ++ [32, 44, 32]) ++ (ta b).1) ++ [32, 41] := by rcases ho with ⟨rfl, rfl⟩ | ⟨rfl, rfl⟩ <;> rfl
      have ew : (wa ⟨o, n, s, [a, b]⟩).1 = wN k :: wS 40 :: ((wa a).1 ++ wS 44 :: ((wa b).1 ++ [wS 41])) := by rcases ho with ⟨rfl, rfl⟩ | ⟨rfl, rfl⟩ <;> rfl
      refine word2 ?_ ?_ ?_ (fun _ => ?_)
      · rw [et, ew]
        show _ = 32 :: (k ++ 32 :: 40 :: sp ((wa a).1 ++ wS 44 :: ((wa b).1 ++ [wS 41])))
        rw [sp_app]
        show _ = 32 :: (k ++ 32 :: 40 :: (sp (wa a).1 ++ 32 :: 44 :: sp ((wa b).1 ++ [wS 41])))
        rw [sp_app, ← ea, ← eb]
        show _ = 32 :: (k ++ 32 :: 40 :: (32 :: (ta a).1 ++ 32 :: 44 :: (32 :: (ta b).1 ++ [32, 41])))
        simp
      · intro t ht
        rw [ew] at ht
        simp only [List.mem_cons, List.mem_append, List.not_mem_nil, or_false] at ht
        rcases ht with rfl | rfl | ht | rfl | ht | rfl
        · exact good_name hk
        · exact good40
        · exact ga t ht
        · exact good44
        · exact gb t ht
        · exact good41
      all_goals rw [et]; simp only [List.length_append, List.length_cons, List.length_nil]; omega
    have hcs : o = 0 ∨ o = 1 ∨ o = 2 ∨ o = 3 ∨ o = 4 ∨ o = 9 ∨ o = 10 ∨ o = 11 ∨ o = 14 ∨ (o = 5 ∨ o = 6 ∨ o = 7 ∨ o = 8 ∨ o = 12 ∨ o = 13 ∨ o = 15 ∨ o = 16) := by omega
    rcases hcs with rfl | rfl | rfl | rfl | rfl | rfl | rfl | rfl | rfl | ho
    · obtain rfl : l = [] := List.length_eq_zero_iff.1 (shx_len hl rfl)
      unfold nodeok at hno
      rw [if_pos rfl] at hno
      have hi := (num_of (u := n.toNat) (by omega)).2
      have e : Lib.itoa n = Lib.decDigits n.toNat := itoa_nat hno.1.1
      refine leaf rfl ?_ ?_ ?_
      · show 32 :: Lib.itoa n = 32 :: (Lib.itoa n ++ [])
        simp
      · intro t ht
        obtain rfl := List.mem_singleton.1 ht
        exact good_num hno.1.1 hno.1.2
      · show (Lib.itoa n).length ≤ 31
        rw [e]; omega
    · obtain rfl : l = [] := List.length_eq_zero_iff.1 (shx_len hl rfl)
      unfold nodeok at hno
      rw [if_neg (by decide), if_pos (by decide)] at hno
      have hn := name_le hno.2
      refine leaf rfl ?_ ?_ ?_
      · show 32 :: (([108, 105, 102, 116, 115, 32, 40, 32] ++ s) ++ [32, 41]) = 32 :: ([108, 105, 102, 116, 115] ++ 32 :: 40 :: 32 :: (s ++ [32, 41]))
        simp
      · intro t ht
        have ht : t ∈ [wN [108, 105, 102, 116, 115], wS 40, wN s, wS 41] := ht
        simp only [List.mem_cons, List.not_mem_nil, or_false] at ht
        rcases ht with rfl | rfl | rfl | rfl
        · exact good_name (by decide)
        · exact good40
        · exact good_name hno.2
        · exact good41
      · show (([108, 105, 102, 116, 115, 32, 40, 32] ++ s) ++ [32, 41]).length ≤ 31
        simp only [List.length_append, List.length_cons, List.length_nil]; omega
    · obtain rfl : l = [] := List.length_eq_zero_iff.1 (shx_len hl rfl)
      refine leaf rfl rfl ?_ (by show 7 ≤ 31; decide)
      intro t ht
      obtain rfl := List.mem_singleton.1 ht
      exact good_name (by decide)
    · obtain rfl : l = [] := List.length_eq_zero_iff.1 (shx_len hl rfl)
      refine leaf rfl rfl ?_ (by show 5 ≤ 31; decide)
      intro t ht
      obtain rfl := List.mem_singleton.1 ht
      exact good_name (by decide)
    · obtain rfl : l = [] := List.length_eq_zero_iff.1 (shx_len hl rfl)
      unfold nodeok at hno
      rw [if_neg (by decide), if_pos (by decide)] at hno
      have hn := name_le hno.2
      refine leaf rfl ?_ ?_ ?_
      · show 32 :: (([119, 101, 105, 103, 104, 116, 32, 40, 32] ++ s) ++ [32, 41]) = 32 :: ([119, 101, 105, 103, 104, 116] ++ 32 :: 40 :: 32 :: (s ++ [32, 41]))
        simp
      · intro t ht
        have ht : t ∈ [wN [119, 101, 105, 103, 104, 116], wS 40, wN s, wS 41] := ht
        simp only [List.mem_cons, List.not_mem_nil, or_false] at ht
        rcases ht with rfl | rfl | rfl | rfl
        · exact good_name (by decide)
        · exact good40
        · exact good_name hno.2
        · exact good41
      · show (([119, 101, 105, 103, 104, 116, 32, 40, 32] ++ s) ++ [32, 41]).length ≤ 31
        simp only [List.length_append, List.length_cons, List.length_nil]; omega
    · exact mm _ (by decide) rfl (.inl ⟨rfl, rfl⟩)
    · exact mm _ (by decide) rfl (.inr ⟨rfl, rfl⟩)
    · have hl3 : l.length = 3 := shx_len hl rfl
      obtain ⟨a, b, c, rfl⟩ : ∃ a b c, l = [a, b, c] := by
        match l, hl3 with
        | [a, b, c], _ => exact ⟨a, b, c, rfl⟩
      have hcab : cnt ⟨11, n, s, [a, b, c]⟩ = cnt a + (cnt b + (cnt c + 0)) + 1 := rfl
      obtain ⟨_, ea, ga, la⟩ := ih a (by simp)
      obtain ⟨_, eb, gb, lb⟩ := ih b (by simp)
      obtain ⟨_, ec, gc, lc⟩ := ih c (by simp)
      have et : (ta ⟨11, n, s, [a, b, c]⟩).1 = (((([105, 102, 32] ++ (ta a).2) ++ [32, 116, 104, 101, 110, 32]) ++ (ta b).2) ++ [32, 101, 108, 115, 101, 32]) ++ (ta c).2 := rfl
      have ew : (wa ⟨11, n, s, [a, b, c]⟩).1 = wN [105, 102] :: ((wa a).2 ++ wN [116, 104, 101, 110] :: ((wa b).2 ++ wN [101, 108, 115, 101] :: (wa c).2)) := rfl
      refine word2 ?_ ?_ ?_ (fun _ => ?_)
      · rw [et, ew]
        show _ = 32 :: ([105, 102] ++ sp ((wa a).2 ++ wN [116, 104, 101, 110] :: ((wa b).2 ++ wN [101, 108, 115, 101] :: (wa c).2)))
        rw [sp_app]
        show _ = 32 :: ([105, 102] ++ (sp (wa a).2 ++ 32 :: ([116, 104, 101, 110] ++ sp ((wa b).2 ++ wN [101, 108, 115, 101] :: (wa c).2))))
        rw [sp_app]
        show _ = 32 :: ([105, 102] ++ (sp (wa a).2 ++ 32 :: ([116, 104, 101, 110] ++ (sp (wa b).2 ++ 32 :: ([101, 108, 115, 101] ++ sp (wa c).2)))))
        rw [← ea, ← eb, ← ec]
        simp
      · intro t ht
        rw [ew] at ht
        simp only [List.mem_cons, List.mem_append] at ht
        rcases ht with rfl | ht | rfl | ht | rfl | ht
        · exact good_name (by decide)
        · exact ga t ht
        · exact good_name (by decide)
        · exact gb t ht
        · exact good_name (by decide)
        · exact gc t ht
      all_goals rw [et]; simp only [List.length_append, List.length_cons, List.length_nil]; omega
    · have hl1 : l.length = 1 := shx_len hl rfl
      obtain ⟨a, rfl⟩ : ∃ a, l = [a] := by
        match l, hl1 with
        | [a], _ => exact ⟨a, rfl⟩
      have hcab : cnt ⟨14, n, s, [a]⟩ = cnt a + 0 + 1 := rfl
      obtain ⟨_, ea, ga, la⟩ := ih a (by simp)
      have et : (ta ⟨14, n, s, [a]⟩).1 = [110, 111, 116, 32] ++ (ta a).2 := rfl
      have ew : (wa ⟨14, n, s, [a]⟩).1 = wN [110, 111, 116] :: (wa a).2 := rfl
      refine word2 ?_ ?_ ?_ (fun _ => ?_)
      · rw [et, ew]
        show _ = 32 :: ([110, 111, 116] ++ sp (wa a).2)
        rw [← ea]; simp
      · intro t ht
        rw [ew] at ht
        rcases List.mem_cons.1 ht with rfl | ht
        · exact good_name (by decide)
        · exact ga t ht
      all_goals rw [et]; simp only [List.length_append, List.length_cons, List.length_nil]; omega
    · exact bin ho
end Go.Proofs.YtpihabofmnnbbaaDoor.Pr

/-
  READING what was printed: the reader returns what the words say.
-/
namespace Go.Proofs.YtpihabofmnnbbaaDoor.Pr
open Go Rt M Ta Tp

/-- from the place a on the tokens begin with these words -/
def Bg (l : List Token) (a : Nat) (ws : List Token) : Prop := ∃ post, (l.drop a).map strip = ws ++ post
theorem Bg.cut {l : List Token} {a : Nat} {u v : List Token} (h : Bg l a (u ++ v)) : Bg l a u ∧ Bg l (a + u.length) v := by
  obtain ⟨post, h⟩ := h
  refine ⟨⟨v ++ post, by rw [h, List.append_assoc]⟩, ⟨post, ?_⟩⟩
  have := congrArg (List.drop u.length) h
  rw [← List.map_drop, List.drop_drop, List.append_assoc] at this
  rw [this]; simp
theorem Bg.len {l : List Token} {a : Nat} {w : Token} {ws : List Token} (h : Bg l a (w :: ws)) : a + (w :: ws).length ≤ l.length := by
  obtain ⟨post, h⟩ := h
  have := congrArg List.length h
  simp only [List.length_map, List.length_drop, List.length_append, List.length_cons] at this ⊢
  omega
theorem Bg.next {l : List Token} {a : Nat} {w : Token} {ws : List Token} (h : Bg l a (w :: ws)) : ∃ t : Token, (∀ n, tariff_reader_next n (Rd l a 0) = some (Rd l a 0, t)) ∧ nextT l a 0 = t ∧ t.Kind = w.Kind ∧ t.Text = w.Text ∧ t.N = w.N ∧ a < l.length ∧ Bg l (a + 1) ws := by
  have hlen := h.len
  have h2 := (Bg.cut (u := [w]) (v := ws) h).2
  obtain ⟨post, h⟩ := h
  have ha : a < l.length := by simp only [List.length_cons] at hlen; omega
  rw [List.drop_eq_getElem_cons ha] at h
  have e : strip l[a] = w := (List.cons.inj (show strip l[a] :: (l.drop (a + 1)).map strip = w :: (ws ++ post) from h)).1
  have e2 : nextT l a 0 = l[a] := by
    unfold nextT
    rw [if_pos rfl, List.getElem?_eq_getElem ha]; rfl
  refine ⟨l[a], fun n => by rw [next_n n (by omega), e2], e2, ?_, ?_, ?_, ha, h2⟩
  · exact congrArg (·.Kind) e
  · exact congrArg (·.Text) e
  · exact congrArg (·.N) e
theorem Bg.take {l : List Token} {a : Nat} {w : Token} {ws : List Token} (h : Bg l a (w :: ws)) (hl : l.length ≤ 1000000) (hk : w.Kind = 0 ∨ w.Kind = 3) (n : Nat) : tariff_reader_take n (Rd l a 0) w.Text = some (Rd l (a + 1) 0, true) := by
  obtain ⟨t, _, e, e1, e2, _, h3, _⟩ := h.next
  have : isT l a 0 w.Text = true := by
    unfold isT
    rw [e, e1, e2]
    rcases hk with hk | hk <;> rw [hk] <;> simp
  rw [take_n n _ hl (by omega), this]; rfl
theorem Bg.leave {l : List Token} {a : Nat} {w : Token} {ws : List Token} (h : Bg l a (w :: ws)) (hl : l.length ≤ 1000000) {s : Rt.Bs} (hk : w.Kind = 1 ∨ w.Text ≠ s) (n : Nat) : tariff_reader_take n (Rd l a 0) s = some (Rd l a 0, false) := by
  obtain ⟨t, _, e, e1, e2, _, h3, _⟩ := h.next
  have : isT l a 0 s = false := by
    unfold isT
    rw [e, e1, e2]
    rcases hk with hk | hk
    · rw [hk]; simp
    · rw [beq_eq_false_iff_ne.2 hk]; rfl
  rw [take_n n _ hl (by omega), this]; rfl
theorem need_LB {l : List Token} (hl : l.length ≤ 1000000) (all : List Rt.Bs) (hw : all.length ≤ 1000) : ∀ (us : List Token) (i a : Nat), all.drop i = us.map (·.Text) → (∀ w, w ∈ us → w.Kind = 0 ∨ w.Kind = 3) → Bg l a us →
    ∀ n m, us.length < m → tariff_reader_need_L1 n all (fun f4 f5 f6 => some (⟨f4, f5, f6⟩ : reader)) m (i : Int) l (a : Int) 0 = some (Rd l (a + us.length) 0)
  | [], i, a, hd, _, _, n, m, hm => by
    obtain ⟨m, rfl⟩ := left hm
    rw [tariff_reader_need_L1_s, more_no hd]; rfl
  | u :: us, i, a, hd, hk, hb, n, m, hm => by
    obtain ⟨h1, h2, h3⟩ := Rt.drop_cons hd
    obtain ⟨m, rfl, hm2⟩ := pred (by simpa using hm)
    rw [tariff_reader_need_L1_s, more_yes hd, cond_true, h1, Option.bind_some, hb.take hl (hk u (by simp)) n, Option.bind_some]
    dsimp only
    rw [Bool.not_true, cond_false, inc64 (by omega), need_LB hl all hw us (i + 1) (a + 1) h2 (fun w h => hk w (by simp [h])) (Bg.cut (u := [u]) (v := us) hb).2 n m hm2, List.length_cons, show a + 1 + us.length = a + (us.length + 1) by omega]
theorem need_b {l : List Token} {a : Nat} (us : List Token) (hb : Bg l a us) (hl : l.length ≤ 1000000) (hk : ∀ w, w ∈ us → w.Kind = 0 ∨ w.Kind = 3) (hu : us.length ≤ 1000) : Ev (fun n => tariff_reader_need n (Rd l a 0) (us.map (·.Text))) (Rd l (a + us.length) 0) :=
  ⟨us.length + 1, fun n hn => need_LB hl _ (by simpa using hu) us 0 a rfl hk hb n n (by omega)⟩
theorem one_b {l : List Token} {a : Nat} {w : Token} {ws : List Token} (hb : Bg l a (w :: ws)) (hl : l.length ≤ 1000000) : ∃ t : Token, (∀ n, tariff_reader_one n (Rd l a 0) w.Kind = some (Rd l (a + 1) 0, t)) ∧ t.Text = w.Text ∧ t.N = w.N := by
  obtain ⟨t, e0, e, e1, e2, e3, h3, _⟩ := hb.next
  refine ⟨t, fun n => ?_, e2, e3⟩
  unfold tariff_reader_one
  rw [e0, Option.bind_some]
  dsimp only
  rw [e1, show (w.Kind != w.Kind) = false by simp, cond_false, inc64 (by omega)]

def AtomOk (x : M.Expr) : Prop := ∀ (l : List Token) (a b : Nat), l.length ≤ 1000000 → Bg l a (wa x).2 → b = a + (wa x).2.length → Ev (fun n => tariff_reader_atom n (Rd l a 0)) (Rd l b 0, x)
def ExprOk (x : M.Expr) : Prop := ∀ (l : List Token) (a b : Nat) (z : Token), l.length ≤ 1000000 → Bg l a ((wa x).1 ++ [z]) → mget ops z.Text = none → b = a + (wa x).1.length → Ev (fun n => tariff_reader_expr n (Rd l a 0)) (Rd l b 0, x)
/-- no Arg begins with not or if -/
def Fst (x : M.Expr) : Prop := ∃ w ws, (wa x).2 = w :: ws ∧ (w.Kind = 1 ∨ (w.Text ≠ [110, 111, 116] ∧ w.Text ≠ [105, 102]))
theorem atom_par {o n : Int} {s : Rt.Bs} {k : List M.Expr} (hb : ((!k.isEmpty && o != 9) && o != 10) = true) (h : ExprOk ⟨o, n, s, k⟩) : AtomOk ⟨o, n, s, k⟩ := by
  intro l a b hl hg hbb
  have e2 : (wa ⟨o, n, s, k⟩).2 = wS 40 :: ((wa ⟨o, n, s, k⟩).1 ++ [wS 41]) := by
    show wdp o k (wa ⟨o, n, s, k⟩).1 = _
    unfold wdp; rw [hb]; rfl
  rw [e2] at hg hbb
  obtain ⟨⟨k1, t1, n1, p1⟩, f1, _, g1, g2, g3, g4, g5⟩ := hg.next
  obtain rfl : k1 = 3 := g1
  obtain rfl : t1 = [40] := g2
  refine Ev.suc (fun m => tariff_reader_atom_s m _) ?_
  refine Ev.bind (Ev.all f1) (Ev.else rfl (Ev.step (a := false) rfl (Ev.else rfl (Ev.then rfl ?_))))
  rw [show iadd .i64 (a : Int) 1 = ((a + 1 : Nat) : Int) from inc64 (by omega)]
  refine Ev.bind (h l (a + 1) _ (wS 41) hl g5 rfl rfl) ?_
  refine Ev.bind (need_b [wS 41] (Bg.cut g5).2 hl (by intro w hw; obtain rfl := List.mem_singleton.1 hw; exact .inr rfl) (by decide)) ?_
  refine (Ev.pure _).eq ?_
  dsimp only
  rw [hbb]
  congr 2
  simp only [List.length_cons, List.length_append, List.length_nil]; omega
theorem expr_atom {x : M.Expr} (h1 : (wa x).2 = (wa x).1) (hf : Fst x) (h : AtomOk x) : ExprOk x := by
  intro l a b z hl hg hz hb
  obtain ⟨w, ws, e, hw⟩ := hf
  have hg1 := hg.cut.1
  rw [← h1, e] at hg1
  refine Ev.suc (fun m => tariff_reader_expr_s m _) ?_
  refine Ev.bind (Ev.all (hg1.leave hl (hw.imp id (·.1)))) (Ev.else rfl ?_)
  refine Ev.bind (Ev.all (hg1.leave hl (hw.imp id (·.2)))) (Ev.else rfl ?_)
  refine Ev.bind (h l a _ hl (by rw [h1]; exact hg.cut.1) rfl) ?_
  have hg2 := hg.cut.2
  rw [← h1] at hg2
  obtain ⟨t, f1, _, _, g2, _⟩ := hg2.next
  refine Ev.bind (Ev.all f1) (Ev.bind (Ev.all fun m => operators_n m) ?_)
  dsimp only
  rw [g2, hz]
  refine Ev.step (a := (true, l, ((a + (wa x).2.length : Nat) : Int), 0)) rfl (Ev.then rfl ?_)
  refine (Ev.pure _).eq ?_
  rw [hb, h1]
theorem expr_bin {o : Int} {x y : M.Expr} (ho : o = 5 ∨ o = 6 ∨ o = 7 ∨ o = 8 ∨ o = 12 ∨ o = 13 ∨ o = 15 ∨ o = 16) (hf : Fst x) (hx : AtomOk x) (hy : AtomOk y) : ExprOk ⟨o, 0, [], [x, y]⟩ := by
  intro l a b z hl hg hz hb
  have ew : (wa ⟨o, 0, [], [x, y]⟩).1 = (wa x).2 ++ opw o :: (wa y).2 := by
    show (if o = 9 ∨ o = 10 then _ else (wa x).2 ++ opw o :: (wa y).2) = _
    rw [if_neg (by omega)]
  rw [ew] at hg hb
  have hg := hg.cut.1
  obtain ⟨w, ws, e, hw⟩ := hf
  have hg1 := hg.cut.1
  rw [e] at hg1
  refine Ev.suc (fun m => tariff_reader_expr_s m _) ?_
  refine Ev.bind (Ev.all (hg1.leave hl (hw.imp id (·.1)))) (Ev.else rfl ?_)
  refine Ev.bind (Ev.all (hg1.leave hl (hw.imp id (·.2)))) (Ev.else rfl ?_)
  refine Ev.bind (hx l a _ hl hg.cut.1 rfl) ?_
  have hg2 := hg.cut.2
  obtain ⟨t, f1, _, g1, g2, _, _, g6⟩ := hg2.next
  refine Ev.bind (Ev.all f1) (Ev.bind (Ev.all fun m => operators_n m) ?_)
  dsimp only
  have hm : mget ops (opw o).Text = some o := by rcases ho with rfl | rfl | rfl | rfl | rfl | rfl | rfl | rfl <;> rfl
  have hk : (opw o).Kind = 0 ∨ (opw o).Kind = 3 := by
    show (if o = 15 ∨ o = 16 then (0 : Int) else 3) = 0 ∨ (if o = 15 ∨ o = 16 then (0 : Int) else 3) = 3
    split
    · exact .inl rfl
    · exact .inr rfl
  rw [g2, hm]
  refine Ev.bind (a := (false, l, ((a + (wa x).2.length + 1 : Nat) : Int), 0)) (Ev.else rfl (Ev.bind (Ev.all (hg2.take hl hk)) (Ev.pure _))) (Ev.else rfl ?_)
  refine Ev.bind (hy l (a + (wa x).2.length + 1) _ hl g6 rfl) ?_
  refine (Ev.pure _).eq ?_
  rw [hb]
  dsimp only [Option.getD_some]
  congr 2
  simp only [List.length_cons, List.length_append]; omega
theorem expr_not {x : M.Expr} (hx : AtomOk x) : ExprOk ⟨14, 0, [], [x]⟩ := by
  intro l a b z hl hg hz hb
  have ew : (wa ⟨14, 0, [], [x]⟩).1 = wN [110, 111, 116] :: (wa x).2 := rfl
  rw [ew] at hg hb
  have hg := hg.cut.1
  refine Ev.suc (fun m => tariff_reader_expr_s m _) ?_
  refine Ev.bind (Ev.all (hg.take hl (.inl rfl))) (Ev.then rfl ?_)
  refine Ev.bind (hx l (a + 1) _ hl (Bg.cut (u := [wN [110, 111, 116]]) hg).2 rfl) ?_
  obtain rfl : b = a + 1 + (wa x).2.length := by rw [hb]; simp only [List.length_cons]; omega
  exact Ev.pure _
theorem expr_if {x y v : M.Expr} (hx : AtomOk x) (hy : AtomOk y) (hv : AtomOk v) : ExprOk ⟨11, 0, [], [x, y, v]⟩ := by
  intro l a b z hl hg hz hb
  have ew : (wa ⟨11, 0, [], [x, y, v]⟩).1 = wN [105, 102] :: ((wa x).2 ++ wN [116, 104, 101, 110] :: ((wa y).2 ++ wN [101, 108, 115, 101] :: (wa v).2)) := rfl
  rw [ew] at hg hb
  have hg := hg.cut.1
  refine Ev.suc (fun m => tariff_reader_expr_s m _) ?_
  refine Ev.bind (Ev.all (hg.leave hl (.inr (by decide)))) (Ev.else rfl ?_)
  refine Ev.bind (Ev.all (hg.take hl (.inl rfl))) (Ev.then rfl ?_)
  have h1 := (Bg.cut (u := [wN [105, 102]]) hg).2
  refine Ev.bind (hx l (a + 1) _ hl h1.cut.1 rfl) ?_
  have h2 := h1.cut.2
  refine Ev.bind (need_b [wN [116, 104, 101, 110]] (Bg.cut (u := [wN [116, 104, 101, 110]]) h2).1 hl (by intro w hw; obtain rfl := List.mem_singleton.1 hw; exact .inl rfl) (by decide)) ?_
  have h3 := (Bg.cut (u := [wN [116, 104, 101, 110]]) h2).2
  refine Ev.bind (hy l _ _ hl h3.cut.1 rfl) ?_
  have h4 := h3.cut.2
  refine Ev.bind (need_b [wN [101, 108, 115, 101]] (Bg.cut (u := [wN [101, 108, 115, 101]]) h4).1 hl (by intro w hw; obtain rfl := List.mem_singleton.1 hw; exact .inl rfl) (by decide)) ?_
  have h5 := (Bg.cut (u := [wN [101, 108, 115, 101]]) h4).2
  refine Ev.bind (hv l _ b hl h5 ?_) (Ev.pure _)
  rw [hb]
  simp only [List.length_cons, List.length_append, List.length_nil]; omega
end Go.Proofs.YtpihabofmnnbbaaDoor.Pr

/-
  READING what was printed: the leaves, min and max; all expressions that can be written.
-/
namespace Go.Proofs.YtpihabofmnnbbaaDoor.Pr
open Go Rt M Ta Tp

theorem one_sign {l : List Token} {a : Nat} {c : UInt8} {ws : List Token} (hb : Bg l a (wS c :: ws)) (hl : l.length ≤ 1000000) : Ev (fun n => tariff_reader_need n (Rd l a 0) [[c]]) (Rd l (a + 1) 0) ∧ Bg l (a + 1) ws :=
  ⟨need_b [wS c] (Bg.cut (u := [wS c]) hb).1 hl (by intro w hw; obtain rfl := List.mem_singleton.1 hw; exact .inr rfl) (Nat.le_add_left 1 999), (Bg.cut (u := [wS c]) hb).2⟩
theorem atom_num (n : Int) : AtomOk ⟨0, n, [], []⟩ := by
  intro l a b hl hg hb
  have hg : Bg l a [wK n] := hg
  obtain ⟨⟨k1, t1, n1, p1⟩, f1, _, g1, g2, g3, g4, g5⟩ := hg.next
  obtain rfl : k1 = 1 := g1
  obtain rfl : n1 = n := g3
  obtain rfl : b = a + 1 := hb
  refine Ev.suc (fun m => tariff_reader_atom_s m _) (Ev.bind (Ev.all f1) (Ev.then rfl ?_))
  rw [show iadd .i64 (a : Int) 1 = ((a + 1 : Nat) : Int) from inc64 (by omega)]
  exact Ev.pure _
theorem atom_persons : AtomOk ⟨2, 0, [], []⟩ := by
  intro l a b hl hg hb
  have hg : Bg l a [wN [112, 101, 114, 115, 111, 110, 115]] := hg
  obtain ⟨⟨k1, t1, n1, p1⟩, f1, _, g1, g2, g3, g4, g5⟩ := hg.next
  obtain rfl : k1 = 0 := g1
  obtain rfl : t1 = _ := g2
  obtain rfl : b = a + 1 := hb
  refine Ev.suc (fun m => tariff_reader_atom_s m _) (Ev.bind (Ev.all f1) (Ev.else rfl (Ev.step (a := false) rfl (Ev.else rfl (Ev.else rfl (Ev.then rfl ?_))))))
  rw [show iadd .i64 (a : Int) 1 = ((a + 1 : Nat) : Int) from inc64 (by omega)]
  exact Ev.pure _
theorem atom_flats : AtomOk ⟨3, 0, [], []⟩ := by
  intro l a b hl hg hb
  have hg : Bg l a [wN [102, 108, 97, 116, 115]] := hg
  obtain ⟨⟨k1, t1, n1, p1⟩, f1, _, g1, g2, g3, g4, g5⟩ := hg.next
  obtain rfl : k1 = 0 := g1
  obtain rfl : t1 = _ := g2
  obtain rfl : b = a + 1 := hb
  refine Ev.suc (fun m => tariff_reader_atom_s m _) (Ev.bind (Ev.all f1) (Ev.else rfl (Ev.step (a := false) rfl (Ev.else rfl (Ev.else rfl (Ev.else rfl (Ev.then rfl ?_)))))))
  rw [show iadd .i64 (a : Int) 1 = ((a + 1 : Nat) : Int) from inc64 (by omega)]
  exact Ev.pure _
theorem atom_of_name {o : Int} (ho : o = 1 ∨ o = 4) (s : Rt.Bs) : AtomOk ⟨o, 0, s, []⟩ := by
  intro l a b hl hg hb
  have key : ∀ k : Rt.Bs, (o = 1 ∧ k = [108, 105, 102, 116, 115] ∨ o = 4 ∧ k = [119, 101, 105, 103, 104, 116]) → Bg l a [wN k, wS 40, wN s, wS 41] → Ev (fun n => tariff_reader_atom n (Rd l a 0)) (Rd l (a + 4) 0, ⟨o, 0, s, []⟩) := by
    intro k hk hg
    obtain ⟨⟨k1, t1, n1, p1⟩, f1, _, g1, g2, g3, g4, g5⟩ := hg.next
    obtain rfl : k1 = 0 := g1
    obtain rfl : t1 = k := g2
    obtain ⟨e1, h1⟩ := one_sign g5 hl
    obtain ⟨t, e2, e3, _⟩ := one_b h1 hl
    have h2 := (Bg.cut (u := [wN s]) h1).2
    obtain ⟨e4, _⟩ := one_sign h2 hl
    obtain ⟨k2, t2, n2, p2⟩ := t
    obtain rfl : t2 = s := e3
    refine Ev.suc (fun m => tariff_reader_atom_s m _) (Ev.bind (Ev.all f1) ?_)
    rw [show iadd .i64 (a : Int) 1 = ((a + 1 : Nat) : Int) from inc64 (by omega)]
    rcases hk with ⟨rfl, rfl⟩ | ⟨rfl, rfl⟩
    · refine Ev.else rfl (Ev.step (a := false) rfl (Ev.else rfl (Ev.else rfl (Ev.else rfl (Ev.else rfl (Ev.step (a := true) rfl (Ev.then rfl (Ev.step (a := 1) rfl ?_))))))))
      exact Ev.bind e1 (Ev.bind (Ev.all e2) (Ev.bind e4 (Ev.pure _)))
    · refine Ev.else rfl (Ev.step (a := false) rfl (Ev.else rfl (Ev.else rfl (Ev.else rfl (Ev.else rfl (Ev.step (a := true) rfl (Ev.then rfl (Ev.step (a := 4) rfl ?_))))))))
      exact Ev.bind e1 (Ev.bind (Ev.all e2) (Ev.bind e4 (Ev.pure _)))
  rcases ho with rfl | rfl
  · obtain rfl : b = a + 4 := hb
    exact key _ (.inl ⟨rfl, rfl⟩) hg
  · obtain rfl : b = a + 4 := hb
    exact key _ (.inr ⟨rfl, rfl⟩) hg
theorem atom_min {o : Int} (ho : o = 9 ∨ o = 10) {x y : M.Expr} (hx : ExprOk x) (hy : ExprOk y) : AtomOk ⟨o, 0, [], [x, y]⟩ := by
  intro l a b hl hg hb
  have key : ∀ k : Rt.Bs, (o = 9 ∧ k = [109, 105, 110] ∨ o = 10 ∧ k = [109, 97, 120]) → Bg l a (wN k :: wS 40 :: ((wa x).1 ++ wS 44 :: ((wa y).1 ++ [wS 41]))) → Ev (fun n => tariff_reader_atom n (Rd l a 0)) (Rd l (a + 1 + 1 + (wa x).1.length + 1 + (wa y).1.length + 1) 0, ⟨o, 0, [], [x, y]⟩) := by
    intro k hk hg
    obtain ⟨⟨k1, t1, n1, p1⟩, f1, _, g1, g2, g3, g4, g5⟩ := hg.next
    obtain rfl : k1 = 0 := g1
    obtain rfl : t1 = k := g2
    obtain ⟨e1, h1⟩ := one_sign g5 hl
    have h1' := h1
    rw [show (wa x).1 ++ wS 44 :: ((wa y).1 ++ [wS 41]) = ((wa x).1 ++ [wS 44]) ++ ((wa y).1 ++ [wS 41]) by simp] at h1'
    have ex := hx l (a + 1 + 1) _ (wS 44) hl h1'.cut.1 rfl rfl
    obtain ⟨e2, h2⟩ := one_sign h1.cut.2 hl
    have ey := hy l _ _ (wS 41) hl h2 rfl rfl
    obtain ⟨e3, _⟩ := one_sign h2.cut.2 hl
    refine Ev.suc (fun m => tariff_reader_atom_s m _) (Ev.bind (Ev.all f1) ?_)
    rw [show iadd .i64 (a : Int) 1 = ((a + 1 : Nat) : Int) from inc64 (by omega)]
    have tail : ∀ f2 : Int, Ev (fun n => (tariff_reader_need n (Rd l (a + 1 : Nat) 0) [[40]]).bind fun v11 =>
         ((tariff_reader_expr n v11).bind fun v15 =>
         (app 56 ([] : List M.Expr) [v15.2]).bind fun l4 =>
         some (l4, v15.1.l, v15.1.at_, v15.1.e)).bind fun (l1, f3, f4, f5) =>
         (tariff_reader_need n (⟨f3, f4, f5⟩ : reader) [[44]]).bind fun v12 =>
         ((tariff_reader_expr n v12).bind fun v14 =>
         (app 56 l1 [v14.2]).bind fun l3 =>
         some (l3, v14.1.l, v14.1.at_, v14.1.e)).bind fun (l2, f6, f7, f8) =>
         (tariff_reader_need n (⟨f6, f7, f8⟩ : reader) [[41]]).bind fun v13 =>
         some (v13, (⟨f2, 0, [], l2⟩ : M.Expr))) (Rd l (a + 1 + 1 + (wa x).1.length + 1 + (wa y).1.length + 1) 0, ⟨f2, 0, [], [x, y]⟩) := by
      intro f2
      refine Ev.bind e1 (Ev.bind (a := ([x], l, ((a + 1 + 1 + (wa x).1.length : Nat) : Int), 0)) (Ev.bind ex (Ev.step (app_ok (by simp)) (Ev.pure _))) ?_)
      refine Ev.bind e2 (Ev.bind (a := ([x, y], l, ((a + 1 + 1 + (wa x).1.length + 1 + (wa y).1.length : Nat) : Int), 0)) (Ev.bind ey (Ev.step (app_ok (by simp)) (Ev.pure _))) ?_)
      exact Ev.bind e3 (Ev.pure _)
    rcases hk with ⟨rfl, rfl⟩ | ⟨rfl, rfl⟩
    · exact Ev.else rfl (Ev.step (a := false) rfl (Ev.else rfl (Ev.else rfl (Ev.else rfl (Ev.else rfl (Ev.step (a := false) rfl (Ev.else rfl (Ev.step (a := true) rfl (Ev.then rfl (Ev.step (a := 9) rfl (tail 9)))))))))))
    · exact Ev.else rfl (Ev.step (a := false) rfl (Ev.else rfl (Ev.else rfl (Ev.else rfl (Ev.else rfl (Ev.step (a := false) rfl (Ev.else rfl (Ev.step (a := true) rfl (Ev.then rfl (Ev.step (a := 10) rfl (tail 10)))))))))))
  rcases ho with rfl | rfl
  · have e : (wa ⟨9, 0, [], [x, y]⟩).2 = wN [109, 105, 110] :: wS 40 :: ((wa x).1 ++ wS 44 :: ((wa y).1 ++ [wS 41])) := rfl
    rw [e] at hg hb
    obtain rfl : b = a + 1 + 1 + (wa x).1.length + 1 + (wa y).1.length + 1 := by rw [hb]; simp only [List.length_cons, List.length_append, List.length_nil]; omega
    exact key _ (.inl ⟨rfl, rfl⟩) hg
  · have e : (wa ⟨10, 0, [], [x, y]⟩).2 = wN [109, 97, 120] :: wS 40 :: ((wa x).1 ++ wS 44 :: ((wa y).1 ++ [wS 41])) := rfl
    rw [e] at hg hb
    obtain rfl : b = a + 1 + 1 + (wa x).1.length + 1 + (wa y).1.length + 1 := by rw [hb]; simp only [List.length_cons, List.length_append, List.length_nil]; omega
    exact key _ (.inr ⟨rfl, rfl⟩) hg
theorem fst_par {o n : Int} {s : Rt.Bs} {k : List M.Expr} (hb : ((!k.isEmpty && o != 9) && o != 10) = true) : Fst ⟨o, n, s, k⟩ := by
  refine ⟨wS 40, (wa ⟨o, n, s, k⟩).1 ++ [wS 41], ?_, .inr ⟨by decide, by decide⟩⟩
  show wdp o k (wa ⟨o, n, s, k⟩).1 = _
  unfold wdp; rw [hb]; rfl
theorem read_ok {x : M.Expr} (hs : Shx x) : AtomOk x ∧ ExprOk x ∧ Fst x := by
  induction hs with
  | @mk o n s l h0 h16 hl hno _ ih =>
    have plain : (o ≠ 0 ∧ o ≠ 1 ∧ o ≠ 4) → n = 0 ∧ s = [] := by
      intro h
      unfold nodeok at hno
      rw [if_neg h.1, if_neg (by omega)] at hno
      exact hno
    have leaf : (wa ⟨o, n, s, l⟩).2 = (wa ⟨o, n, s, l⟩).1 → Fst ⟨o, n, s, l⟩ → AtomOk ⟨o, n, s, l⟩ → AtomOk ⟨o, n, s, l⟩ ∧ ExprOk ⟨o, n, s, l⟩ ∧ Fst ⟨o, n, s, l⟩ := fun h1 h2 h3 => ⟨h3, expr_atom h1 h2 h3, h2⟩
    have par : ((!l.isEmpty && o != 9) && o != 10) = true → ExprOk ⟨o, n, s, l⟩ → AtomOk ⟨o, n, s, l⟩ ∧ ExprOk ⟨o, n, s, l⟩ ∧ Fst ⟨o, n, s, l⟩ := fun h1 h2 => ⟨atom_par h1 h2, h2, fst_par h1⟩
    have hcs : o = 0 ∨ (o = 1 ∨ o = 4) ∨ o = 2 ∨ o = 3 ∨ (o = 9 ∨ o = 10) ∨ o = 11 ∨ o = 14 ∨ (o = 5 ∨ o = 6 ∨ o = 7 ∨ o = 8 ∨ o = 12 ∨ o = 13 ∨ o = 15 ∨ o = 16) := by omega
    rcases hcs with rfl | ho | rfl | rfl | ho | rfl | rfl | ho
    · obtain rfl : l = [] := List.length_eq_zero_iff.1 (shx_len hl rfl)
      unfold nodeok at hno
      rw [if_pos rfl] at hno
      obtain rfl := hno.2
      exact leaf rfl ⟨_, _, rfl, .inl rfl⟩ (atom_num n)
    · obtain rfl : l = [] := List.length_eq_zero_iff.1 (shx_len hl (by rcases ho with rfl | rfl <;> rfl))
      unfold nodeok at hno
      rw [if_neg (by omega), if_pos ho] at hno
      obtain rfl := hno.1
      refine leaf rfl ?_ (atom_of_name ho s)
      rcases ho with rfl | rfl
      · exact ⟨_, _, rfl, .inr ⟨by decide, by decide⟩⟩
      · exact ⟨_, _, rfl, .inr ⟨by decide, by decide⟩⟩
    · obtain rfl : l = [] := List.length_eq_zero_iff.1 (shx_len hl rfl)
      obtain ⟨rfl, rfl⟩ := plain (by decide)
      exact leaf rfl ⟨_, _, rfl, .inr ⟨by decide, by decide⟩⟩ atom_persons
    · obtain rfl : l = [] := List.length_eq_zero_iff.1 (shx_len hl rfl)
      obtain ⟨rfl, rfl⟩ := plain (by decide)
      exact leaf rfl ⟨_, _, rfl, .inr ⟨by decide, by decide⟩⟩ atom_flats
    · obtain ⟨rfl, rfl⟩ := plain (by omega)
      have hl2 : l.length = 2 := shx_len hl (by rcases ho with rfl | rfl <;> rfl)
      obtain ⟨a, b, rfl⟩ : ∃ a b, l = [a, b] := by
        match l, hl2 with
        | [a, b], _ => exact ⟨a, b, rfl⟩
      have ha := ih a (by simp)
      have hb := ih b (by simp)
      refine leaf ?_ ?_ (atom_min ho ha.2.1 hb.2.1)
      · rcases ho with rfl | rfl <;> rfl
      · rcases ho with rfl | rfl
        · exact ⟨_, _, rfl, .inr ⟨by decide, by decide⟩⟩
        · exact ⟨_, _, rfl, .inr ⟨by decide, by decide⟩⟩
    · obtain ⟨rfl, rfl⟩ := plain (by decide)
      have hl3 : l.length = 3 := shx_len hl rfl
      obtain ⟨a, b, c, rfl⟩ : ∃ a b c, l = [a, b, c] := by
        match l, hl3 with
        | [a, b, c], _ => exact ⟨a, b, c, rfl⟩
      exact par rfl (expr_if (ih a (by simp)).1 (ih b (by simp)).1 (ih c (by simp)).1)
    · obtain ⟨rfl, rfl⟩ := plain (by decide)
      have hl1 : l.length = 1 := shx_len hl rfl
      obtain ⟨a, rfl⟩ : ∃ a, l = [a] := by
        match l, hl1 with
        | [a], _ => exact ⟨a, rfl⟩
      exact par rfl (expr_not (ih a (by simp)).1)
    · obtain ⟨rfl, rfl⟩ := plain (by omega)
      have hl2 : l.length = 2 := shx_len hl (by unfold argsN; rw [if_neg (by omega), if_neg (by omega), if_neg (by omega)]; rfl)
      obtain ⟨a, b, rfl⟩ : ∃ a b, l = [a, b] := by
        match l, hl2 with
        | [a, b], _ => exact ⟨a, b, rfl⟩
      have hb : ((!([a, b] : List M.Expr).isEmpty && o != 9) && o != 10) = true := by
        rcases ho with rfl | rfl | rfl | rfl | rfl | rfl | rfl | rfl <;> rfl
      exact par hb (expr_bin ho (ih a (by simp)).2.2 (ih a (by simp)).1 (ih b (by simp)).1)
end Go.Proofs.YtpihabofmnnbbaaDoor.Pr

/-
  PARSE of what Print returns.
-/
namespace Go.Proofs.YtpihabofmnnbbaaDoor.Pr
open Go Rt M Ta Tp

/-- the words after the fee -/
def capw (c : Int) : List Token := if c ≠ -1 then [wN [99, 97, 112], wS 61, wK c, wS 59] else []
def pwx (t : Tariff) (w : List Token) : List Token := wN [116, 97, 114, 105, 102, 102] :: wN t.Name :: wS 123 :: wN [102, 101, 101] :: wS 61 :: (w ++ wS 59 :: (capw t.Cap ++ [wS 125]))
def pw (t : Tariff) : List Token := pwx t (wa t.Fee).1
theorem good59 : Good (wS 59) := good_sign (by decide)
theorem good61 : Good (wS 61) := good_sign (by decide)
theorem good123 : Good (wS 123) := good_sign (by decide)
theorem good125 : Good (wS 125) := good_sign (by decide)
theorem capw_good {c : Int} (h : -1 ≤ c) (h2 : c ≤ 1099511627776) : ∀ t, t ∈ capw c → Good t := by
  intro t ht
  unfold capw at ht
  by_cases hc : c = -1
  · rw [if_neg (fun h => h hc)] at ht; cases ht
  · rw [if_pos hc] at ht
    simp only [List.mem_cons, List.not_mem_nil, or_false] at ht
    rcases ht with rfl | rfl | rfl | rfl
    · exact good_name (by decide)
    · exact good61
    · exact good_num (by omega) h2
    · exact good59
theorem pw_good {t : Tariff} (hw : Wrt t) {w : List Token} (hg : ∀ u, u ∈ w → Good u) : ∀ u, u ∈ pwx t w → Good u := by
  intro u hu
  unfold pwx at hu
  simp only [List.mem_cons, List.mem_append, List.not_mem_nil, or_false] at hu
  rcases hu with rfl | rfl | rfl | rfl | rfl | hu | rfl | hu | rfl
  · exact good_name (by decide)
  · exact good_name hw.1
  · exact good123
  · exact good_name (by decide)
  · exact good61
  · exact hg u hu
  · exact good59
  · exact capw_good hw.2.2.1 hw.2.2.2 u hu
  · exact good125
theorem ptx_words {t : Tariff} (hw : Wrt t) : 32 :: ptx t = sp (pw t) ∧ (ptx t).length ≤ 4000 := by
  obtain ⟨⟨h1, _, h3⟩, _⟩ := words_ok hw.2.1.2
  have hn := name_le hw.1
  have hc := hw.2.1.1.2
  constructor
  · have e : sp (pw t) = 32 :: ([116, 97, 114, 105, 102, 102] ++ 32 :: (t.Name ++ 32 :: 123 :: 32 :: ([102, 101, 101] ++ 32 :: 61 :: sp ((wa t.Fee).1 ++ wS 59 :: (capw t.Cap ++ [wS 125]))))) := rfl
    have e2 : sp (wS 59 :: (capw t.Cap ++ [wS 125])) = 32 :: 59 :: sp (capw t.Cap ++ [wS 125]) := rfl
    rw [e, sp_app, e2, sp_app, ← h1]
    have e3 : sp (capw t.Cap) = if t.Cap ≠ -1 then ([32, 99, 97, 112, 32, 61, 32] ++ Lib.itoa t.Cap) ++ [32, 59] else [] := by
      unfold capw
      split
      · show 32 :: ([99, 97, 112] ++ 32 :: 61 :: 32 :: (Lib.itoa t.Cap ++ [32, 59])) = _
        simp
      · rfl
    rw [e3]
    unfold ptx
    show _ = 32 :: ([116, 97, 114, 105, 102, 102] ++ 32 :: (t.Name ++ 32 :: 123 :: 32 :: ([102, 101, 101] ++ 32 :: 61 :: (32 :: (ta t.Fee).1 ++ 32 :: 59 :: (_ ++ [32, 125])))))
    simp
  · have h7 : (if t.Cap ≠ -1 then ([32, 99, 97, 112, 32, 61, 32] ++ Lib.itoa t.Cap) ++ [32, 59] else []).length ≤ 30 := by
      split
      · have := Lib.itoa_length_le t.Cap (by have := hw.2.2.1; omega) (by have := hw.2.2.2; omega)
        simp only [List.length_append, List.length_cons, List.length_nil]; omega
      · simp
    unfold ptx
    simp only [List.length_append, List.length_cons, List.length_nil]
    omega
theorem ptx_scan {t : Tariff} (hw : Wrt t) : ∃ l, Lx.scan (ptx t) = (l, 0, 0) ∧ l.map strip = pw t := by
  obtain ⟨h1, h2⟩ := ptx_words hw
  have hg := pw_good hw (words_ok hw.2.1.2).1.2.1
  have h3 : Laid (ptx t) (pw t) := by
    have e : sp (pw t) = 32 :: ([116, 97, 114, 105, 102, 102] ++ sp (pw t).tail) := rfl
    rw [e] at h1
    rw [(List.cons.inj h1).2]
    exact Laid.cons (g := []) (t := wN [116, 97, 114, 105, 102, 102]) gap_nil (hg _ (by unfold pwx; simp)) (sp_stop _) (sp_laid fun u hu => hg u (List.mem_of_mem_tail hu))
  exact laid_whole h3 h2
theorem parse_words {s : Rt.Bs} {t : Tariff} (hw : Wrt t) (hf : Fit t.Fee) {l : List Token} {w : List Token} (hsc : Lx.scan s = (l, 0, 0)) (hs : s.length ≤ 1000000) (hl : l.map strip = pwx t w)
    (he : ∀ a, Bg l a (w ++ [wS 59]) → Ev (fun n => tariff_reader_expr n (Rd l a 0)) (Rd l (a + w.length) 0, t.Fee)) : Ev (fun n => tariff_Parse n s) (t, 0, 0) := by
  have hlen : l.length = (pwx t w).length := by rw [← hl, List.length_map]
  have hl6 : l.length ≤ 1000000 := by have := scan_len s; rw [hsc] at this; exact Nat.le_trans this hs
  have h0 : Bg l 0 (pwx t w) := ⟨[], by rw [List.drop_zero, hl, List.append_nil]⟩
  obtain ⟨nm, fee, cap⟩ := t
  have k0 : ∀ {c : Rt.Bs} {ws : List Token} {a : Nat}, Bg l a (wN c :: ws) → Ev (fun n => tariff_reader_need n (Rd l a 0) [c]) (Rd l (a + 1) 0) ∧ Bg l (a + 1) ws := fun {c ws a} h =>
    ⟨need_b [wN c] (Bg.cut (u := [wN c]) h).1 hl6 (by intro w hw; obtain rfl := List.mem_singleton.1 hw; exact .inl rfl) (Nat.le_add_left 1 999), (Bg.cut (u := [wN c]) h).2⟩
  unfold pwx at h0
  obtain ⟨e1, h1⟩ := k0 h0
  obtain ⟨tn, e2, g2, _⟩ := one_b h1 hl6
  have h2 : Bg l (0 + 1 + 1) (wS 123 :: wN [102, 101, 101] :: wS 61 :: (w ++ wS 59 :: (capw cap ++ [wS 125]))) := (Bg.cut (u := [wN nm]) h1).2
  have e3 := need_b [wS 123, wN [102, 101, 101], wS 61] (Bg.cut (u := [wS 123, wN [102, 101, 101], wS 61]) h2).1 hl6 (by intro w hw; simp only [List.mem_cons, List.not_mem_nil, or_false] at hw; rcases hw with rfl | rfl | rfl <;> decide) (by decide)
  have h3 : Bg l (0 + 1 + 1 + 3) (w ++ wS 59 :: (capw cap ++ [wS 125])) := (Bg.cut (u := [wS 123, wN [102, 101, 101], wS 61]) h2).2
  have h3' := h3
  rw [show w ++ wS 59 :: (capw cap ++ [wS 125]) = (w ++ [wS 59]) ++ (capw cap ++ [wS 125]) by simp] at h3'
  have e4 := he _ h3'.cut.1
  have h4 := h3.cut.2
  obtain ⟨e5, h5⟩ := one_sign h4 hl6
  obtain ⟨t6, _, f6, k6, x6, _, l6, _⟩ := h4.next
  have is6 : isT l (0 + 1 + 1 + 3 + w.length) 0 [59] = true := by
    unfold isT
    have : nextT l (0 + 1 + 1 + 3 + w.length) 0 = t6 := f6
    rw [this, k6, x6]; rfl
  obtain ⟨⟨z, b⟩, e7, hz⟩ := sized_x hf 10 100 (by decide) (by decide)
  obtain rfl : b = true := hz.2 hw.2.1.1.1 hw.2.1.1.2
  unfold tariff_Parse
  refine Ev.bind (Scan_ev hs) ?_
  rw [hsc]
  refine Ev.else rfl ?_
  refine Ev.bind e1 (Ev.bind (Ev.all e2) (Ev.bind e3 (Ev.bind e4 ?_)))
  refine Ev.bind (Ev.all fun n => is_n n [59] (by exact Nat.le_of_lt l6)) ?_
  rw [is6]
  refine Ev.bind (a := (false, z)) (Ev.then rfl (Ev.bind e7 (Ev.pure _))) ?_
  refine Ev.bind (a := (l, ((0 + 1 + 1 + 3 + w.length : Nat) : Int), 0)) (Ev.else rfl (Ev.pure _)) ?_
  refine Ev.bind e5 ?_
  have fin : ∀ (a : Nat) (c : Int), Bg l a [wS 125] → a + 1 = l.length → Ev (fun n => (tariff_reader_need n (Rd l a 0) [[125]]).bind fun v10 =>
      (bif decide (v10.at_ < (l.length : Int)) then
       (tariff_reader_fail n v10 12).bind fun v11 =>
       some (v11.l, v11.at_, v11.e)
      else
       some (v10.l, v10.at_, v10.e)).bind fun (_, f10, f11) =>
      bif f11 == 0 then
       some ((⟨tn.Text, fee, c⟩ : Tariff), 0, 0)
      else
       bif decide (f10 < (l.length : Int)) then
        (ix l f10).bind fun ex1 =>
        some ((⟨[], (⟨0, 0, [], []⟩ : M.Expr), 0⟩ : Tariff), ex1.Pos, f11)
       else
        some ((⟨[], (⟨0, 0, [], []⟩ : M.Expr), 0⟩ : Tariff), (s.length : Int), f11)) (⟨nm, fee, c⟩, 0, 0) := by
    intro a c hb hal
    obtain ⟨e, _⟩ := one_sign hb hl6
    refine Ev.bind e (Ev.bind (a := (l, ((a + 1 : Nat) : Int), 0)) (Ev.else (decide_eq_false (show ¬((a + 1 : Nat) : Int) < (l.length : Int) by omega)) (Ev.pure _)) (Ev.then rfl ?_))
    rw [g2]
    exact Ev.pure _
  simp only [pwx, List.length_cons, List.length_append, List.length_nil] at hlen
  by_cases hc : cap = -1
  · subst hc
    have h5' : Bg l (0 + 1 + 1 + 3 + w.length + 1) [wS 125] := h5
    have ht : ∀ n, tariff_reader_take n (Rd l (0 + 1 + 1 + 3 + w.length + 1) 0) [99, 97, 112] = some (Rd l (0 + 1 + 1 + 3 + w.length + 1) 0, false) := h5'.leave hl6 (.inr (by decide))
    refine Ev.bind (Ev.all ht) (Ev.bind (a := (-1, l, ((0 + 1 + 1 + 3 + w.length + 1 : Nat) : Int), 0)) (Ev.else rfl (Ev.pure _)) ?_)
    refine fin _ _ h5' ?_
    have : (capw (-1)).length = 0 := rfl
    omega
  · have hcw : capw cap = [wN [99, 97, 112], wS 61, wK cap, wS 59] := if_pos hc
    rw [hcw] at h5
    have h5' : Bg l (0 + 1 + 1 + 3 + w.length + 1) (wN [99, 97, 112] :: wS 61 :: wK cap :: wS 59 :: [wS 125]) := h5
    have h6 := (Bg.cut (u := [wN [99, 97, 112]]) h5').2
    obtain ⟨e8, h7⟩ := one_sign h6 hl6
    obtain ⟨tc, e9, _, g9⟩ := one_b h7 hl6
    have h8 := (Bg.cut (u := [wK cap]) h7).2
    obtain ⟨e10, h9⟩ := one_sign h8 hl6
    refine Ev.bind (Ev.all (h5'.take hl6 (.inl rfl))) (Ev.bind (a := (cap, l, ((0 + 1 + 1 + 3 + w.length + 1 + 1 + 1 + 1 + 1 : Nat) : Int), 0)) (Ev.then rfl (Ev.bind e8 (Ev.bind (Ev.all e9) (Ev.bind e10 ?_)))) ?_)
    · refine (Ev.pure _).eq ?_
      rw [g9]; rfl
    refine fin _ _ h9 ?_
    rw [hcw] at hlen
    simp only [List.length_cons, List.length_nil] at hlen ⊢
    omega
theorem parse_ptx {t : Tariff} (hw : Wrt t) (hf : Fit t.Fee) : Ev (fun n => tariff_Parse n (ptx t)) (t, 0, 0) := by
  obtain ⟨l, h1, h2⟩ := ptx_scan hw
  have h3 := (ptx_words hw).2
  refine parse_words hw hf h1 (by omega) h2 fun a hb => ?_
  refine (read_ok hw.2.1.2).2.1 l a _ (wS 59) ?_ hb rfl rfl
  have := scan_len (ptx t); rw [h1] at this; dsimp only at this; omega
end Go.Proofs.YtpihabofmnnbbaaDoor.Pr

/-
  WHAT IS READ can be written.
-/
namespace Go.Proofs.YtpihabofmnnbbaaDoor.Pr
open Go Rt M Ta Tp

/-! what tokens are like -/
def Wf (t : Token) : Prop := (t.Kind = 0 → Lx.name t.Text = true) ∧ (t.Kind = 1 → 0 ≤ t.N ∧ t.N ≤ 1099511627776)
theorem number_le (s : Rt.Bs) : (Lx.number s).1 ≤ 1099511627776 := by
  unfold Lx.number
  split
  · rename_i h; exact h.2
  · exact Nat.zero_le _
theorem next_wf {l : Rt.Bs} (h : (Lx.next l).2.2 = 0) : Wf (Lx.next l).1 := by
  unfold Lx.next at h ⊢
  split at h
  · rename_i h1
    rw [if_pos h1]
    split at h
    · rename_i h2
      rw [if_pos h2]
      exact ⟨fun _ => h2, fun h => (by cases h)⟩
    · cases h
  rename_i h1
  rw [if_neg h1]
  split at h
  · rename_i h2
    rw [if_pos h2]
    split at h
    · rename_i h3
      rw [if_pos h3]
      refine ⟨fun h => (by cases h), fun _ => ?_⟩
      have := number_le (l.take (Lx.spanN Lx.isDigit l))
      dsimp only
      omega
    · cases h
  rename_i h2
  rw [if_neg h2]
  split at h
  · rename_i h3
    rw [if_pos h3]
    split at h
    · cases h
    · rename_i h4
      rw [if_neg h4]
      exact ⟨fun h => (by cases h), fun h => (by cases h)⟩
  rename_i h3
  rw [if_neg h3]
  split at h
  · rename_i h4
    rw [if_pos h4]
    exact ⟨fun h => (by cases h), fun h => (by cases h)⟩
  · cases h
theorem scanF_wf : ∀ (f : Nat) (r : Rt.Bs) (a : Nat), (∀ t, t ∈ (Lx.scanF f r a).1 → Wf t ∧ 0 ≤ t.Pos ∧ t.Pos ≤ ((a + r.length : Nat) : Int)) ∧ (Lx.scanF f r a).2.1 ≤ a + r.length
  | 0, r, a => by simp [Lx.scanF]
  | f + 1, r, a => by
    by_cases hend : Lx.gapN false r = r.length
    · rw [Lx.scanF_end hend]; simp
    have hg := Lx.gapN_le false r
    by_cases hx : (Lx.next (r.drop (Lx.gapN false r))).2.2 = 0
    · have h2 : r.drop (Lx.gapN false r) ≠ [] := by
        intro e; have := congrArg List.length e; simp only [List.length_drop, List.length_nil] at this; omega
      have h4 := Lx.next_len h2 hx
      have h5 := next_wf hx
      have ih := scanF_wf f (r.drop (Lx.gapN false r + (Lx.next (r.drop (Lx.gapN false r))).2.1)) (a + Lx.gapN false r + (Lx.next (r.drop (Lx.gapN false r))).2.1)
      simp only [List.length_drop] at h4 ih
      rw [Lx.scanF_more hend hx]
      have bound : a + Lx.gapN false r + (Lx.next (r.drop (Lx.gapN false r))).2.1 + (r.length - (Lx.gapN false r + (Lx.next (r.drop (Lx.gapN false r))).2.1)) ≤ a + r.length := by omega
      have tk : ∀ t, t ∈ (Lx.scanF f (r.drop (Lx.gapN false r + (Lx.next (r.drop (Lx.gapN false r))).2.1)) (a + Lx.gapN false r + (Lx.next (r.drop (Lx.gapN false r))).2.1)).1 → Wf t ∧ 0 ≤ t.Pos ∧ t.Pos ≤ ((a + r.length : Nat) : Int) := fun t ht => by
        obtain ⟨g1, g2, g3⟩ := ih.1 t ht
        exact ⟨g1, g2, by omega⟩
      split
      · exact ⟨tk, by omega⟩
      · refine ⟨fun t ht => ?_, Nat.zero_le _⟩
        rcases List.mem_cons.1 ht with rfl | ht
        · exact ⟨h5, (by dsimp only; omega), (by dsimp only; omega)⟩
        · exact tk t ht
    · rw [Lx.scanF_bad hend hx]
      exact ⟨fun t ht => (by cases ht), (by dsimp only; omega)⟩
theorem scan_wf (s : Rt.Bs) : (∀ t, t ∈ (Lx.scan s).1 → Wf t ∧ 0 ≤ t.Pos ∧ t.Pos ≤ (s.length : Int)) ∧ (Lx.scan s).2.1 ≤ s.length := by
  unfold Lx.scan
  split
  · exact ⟨fun t ht => (by cases ht), Nat.zero_le _⟩
  · have := scanF_wf (s.length + 1) s 0
    rw [Nat.zero_add] at this
    exact this

/-! the reader -/
theorem fail_ne {e x : Int} (hx : x ≠ 0) : failE e x ≠ 0 := by
  unfold failE
  split
  · exact hx
  · assumption
def InE (l : List Token) (a : Nat) (e : Int) (r : reader) : Prop := ∃ (b : Nat) (e' : Int), r = Rd l b e' ∧ a ≤ b ∧ b ≤ l.length ∧ (e' = 0 → e = 0)
def InS (l : List Token) (a : Nat) (e : Int) (p : reader × M.Expr) : Prop := ∃ (b : Nat) (e' : Int), p.1 = Rd l b e' ∧ a ≤ b ∧ b ≤ l.length ∧ (e' = 0 → e = 0) ∧ (e' = 0 → Shx p.2) ∧ Fit p.2
theorem take_w {l : List Token} {a : Nat} {e : Int} (s : Rt.Bs) (hl : l.length ≤ 1000000) (ha : a ≤ l.length) : Tt (fun p => InE l a e p.1) (fun n => tariff_reader_take n (Rd l a e) s) := by
  refine Tt.all (fun n => take_n n s hl ha) ?_
  cases h : isT l a e s with
  | false => exact ⟨a, e, rfl, Nat.le_refl _, ha, id⟩
  | true => exact ⟨a + 1, e, rfl, by omega, (isT_lt h).1, id⟩
theorem need_LW {l : List Token} (hl : l.length ≤ 1000000) (ws : List Rt.Bs) (hw : ws.length ≤ 1000) : ∀ (us : List Rt.Bs) (i a : Nat) (e : Int), ws.drop i = us → a ≤ l.length →
    ∃ r, InE l a e r ∧ ∀ n m, us.length < m → tariff_reader_need_L1 n ws (fun f4 f5 f6 => some (⟨f4, f5, f6⟩ : reader)) m (i : Int) l (a : Int) e = some r
  | [], i, a, e, hd, ha => by
    refine ⟨Rd l a e, ⟨a, e, rfl, Nat.le_refl _, ha, id⟩, fun n m hm => ?_⟩
    obtain ⟨m, rfl⟩ := left hm
    rw [tariff_reader_need_L1_s, more_no hd]; rfl
  | u :: us, i, a, e, hd, ha => by
    obtain ⟨h1, h2, h3⟩ := Rt.drop_cons hd
    cases h : isT l a e u with
    | false =>
      obtain ⟨r, ⟨b, e', hr, g1, g2, g3⟩, ih⟩ := need_LW hl ws hw us (i + 1) a (failE e 12) h2 ha
      refine ⟨r, ⟨b, e', hr, g1, g2, fun h0 => absurd (g3 h0) (fail_ne (by decide))⟩, fun n m hm => ?_⟩
      obtain ⟨m, rfl, hm2⟩ := pred (by simpa using hm)
      rw [tariff_reader_need_L1_s, more_yes hd, cond_true, h1, Option.bind_some, take_n n u hl ha, Option.bind_some, h]
      dsimp only
      rw [Bool.not_false, cond_true, cond_false, fail_n, Option.bind_some, inc64 (by omega)]
      exact ih n m hm2
    | true =>
      have h4 := isT_lt h
      obtain ⟨r, ⟨b, e', hr, g1, g2, g3⟩, ih⟩ := need_LW hl ws hw us (i + 1) (a + 1) e h2 h4.1
      refine ⟨r, ⟨b, e', hr, by omega, g2, g3⟩, fun n m hm => ?_⟩
      obtain ⟨m, rfl, hm2⟩ := pred (by simpa using hm)
      rw [tariff_reader_need_L1_s, more_yes hd, cond_true, h1, Option.bind_some, take_n n u hl ha, Option.bind_some, h]
      dsimp only
      rw [Bool.not_true, cond_false, cond_true, inc64 (by omega)]
      exact ih n m hm2
theorem need_w {l : List Token} (hl : l.length ≤ 1000000) {a : Nat} {e : Int} (ha : a ≤ l.length) (ws : List Rt.Bs) (hw : ws.length ≤ 1000) : Tt (InE l a e) (fun n => tariff_reader_need n (Rd l a e) ws) := by
  obtain ⟨r, hr, ih⟩ := need_LW hl ws hw ws 0 a e rfl ha
  exact ⟨r, ⟨ws.length + 1, fun n hn => ih n n (by omega)⟩, hr⟩
theorem nextT_mem {l : List Token} {a : Nat} {e : Int} (h : (nextT l a e).Kind ≠ 4) : nextT l a e ∈ l := by
  have h1 := next_lt h
  unfold nextT
  rw [if_pos h1.2, List.getElem?_eq_getElem h1.1]
  exact List.getElem_mem _
theorem one_w {l : List Token} (hl : l.length ≤ 1000000) {a : Nat} {e : Int} (ha : a ≤ l.length) {k : Int} (hk : k ≠ 4) : Tt (fun p => ∃ (b : Nat) (e' : Int), p.1 = Rd l b e' ∧ a ≤ b ∧ b ≤ l.length ∧ (e' = 0 → e = 0) ∧ (e' = 0 → p.2.Kind = k ∧ p.2 ∈ l)) (fun n => tariff_reader_one n (Rd l a e) k) := by
  unfold tariff_reader_one
  refine Tt.evb (Ev.all fun n => next_n n ha) ?_
  refine Tt.bif (fun h => ?_) (fun h => ?_)
  · exact Tt.evb (Ev.all fun n => fail_n n l a e 12) (Tt.pure ⟨a, _, rfl, Nat.le_refl _, ha, fun h0 => absurd h0 (fail_ne (by decide)), fun h0 => absurd h0 (fail_ne (by decide))⟩)
  · have h1 : (nextT l a e).Kind = k := by simpa using h
    have h2 := next_lt (by rw [h1]; exact hk)
    refine Tt.pure ⟨a + 1, e, ?_, by omega, h2.1, id, fun _ => ⟨h1, nextT_mem (by rw [h1]; exact hk)⟩⟩
    dsimp only
    rw [inc64 (by omega)]
theorem mget_op {s : Rt.Bs} {o : Int} (h : mget ops s = some o) : o = 5 ∨ o = 6 ∨ o = 7 ∨ o = 8 ∨ o = 12 ∨ o = 13 ∨ o = 15 ∨ o = 16 := by
  unfold mget at h
  cases hq : List.find? (fun p => s == p.1) ops with
  | none => rw [hq] at h; cases h
  | some q =>
    rw [hq] at h
    have h1 := List.mem_of_find?_eq_some hq
    have h2 : q.2 = o := Option.some.inj h
    subst h2
    simp only [ops, List.mem_cons, List.not_mem_nil, or_false] at h1
    rcases h1 with rfl | rfl | rfl | rfl | rfl | rfl | rfl | rfl <;> simp
theorem node_w {o : Int} {l : List M.Expr} (h0 : 0 ≤ o) (h16 : o ≤ 16) (h : o ≠ 0 ∧ o ≠ 1 ∧ o ≠ 4) (hl : (l.length : Int) = argsN o) (hc : ∀ y, y ∈ l → Shx y) : Shx ⟨o, 0, [], l⟩ := by
  refine Shx.mk h0 h16 hl ?_ hc
  unfold nodeok
  rw [if_neg h.1, if_neg (by omega)]
  exact ⟨rfl, rfl⟩
theorem bin_w {o : Int} {x y : M.Expr} (h : o = 9 ∨ o = 10 ∨ o = 5 ∨ o = 6 ∨ o = 7 ∨ o = 8 ∨ o = 12 ∨ o = 13 ∨ o = 15 ∨ o = 16) (hx : Shx x) (hy : Shx y) : Shx ⟨o, 0, [], [x, y]⟩ := by
  refine node_w (by omega) (by omega) (by omega) ?_ (by simp [hx, hy])
  unfold argsN
  rw [if_neg (by omega), if_neg (by omega), if_neg (by omega)]; rfl

theorem expr_w {l : List Token} (hl : l.length ≤ 1000000) {k : Nat} (H : ∀ (a : Nat) (e : Int), a ≤ l.length → l.length - a ≤ k → Tt (InS l a e) (fun n => tariff_reader_atom n (Rd l a e))) (a : Nat) (e : Int) (ha : a ≤ l.length) (hk : l.length - a ≤ k) :
    Tt (InS l a e) (fun n => tariff_reader_expr n (Rd l a e)) := by
  refine Tt.suc (fun n => tariff_reader_expr_s n _) ?_
  refine Tt.bind (take_w _ hl ha) ?_
  rintro ⟨_, b⟩ ⟨a1, e1, rfl, h1, h2, s1⟩
  refine Tt.bif (fun _ => ?_) (fun _ => ?_)
  · refine Tt.bind (H a1 e1 h2 (by omega)) ?_
    rintro ⟨_, x⟩ ⟨a2, e2, rfl, h3, h4, s2, sx, fx⟩
    exact Tt.pure ⟨a2, e2, rfl, by omega, h4, fun z => s1 (s2 z), fun z => node_w (by decide) (by decide) (by decide) rfl (by simpa using sx z), Fit.one _ _ _ fx⟩
  refine Tt.bind (take_w _ hl h2) ?_
  rintro ⟨_, b2⟩ ⟨a2, e2, rfl, h3, h4, s2⟩
  refine Tt.bif (fun _ => ?_) (fun _ => ?_)
  · refine Tt.bind (H a2 e2 h4 (by omega)) ?_
    rintro ⟨_, x⟩ ⟨a3, e3, rfl, h5, h6, s3, sx, fx⟩
    refine Tt.bind (need_w hl h6 _ (by simp)) ?_
    rintro _ ⟨a4, e4, rfl, h7, h8, s4⟩
    refine Tt.bind (H a4 e4 h8 (by omega)) ?_
    rintro ⟨_, y⟩ ⟨a5, e5, rfl, h9, h10, s5, sy, fy⟩
    refine Tt.bind (need_w hl h10 _ (by simp)) ?_
    rintro _ ⟨a6, e6, rfl, h11, h12, s6⟩
    refine Tt.bind (H a6 e6 h12 (by omega)) ?_
    rintro ⟨_, z⟩ ⟨a7, e7, rfl, h13, h14, s7, sz, fz⟩
    refine Tt.pure ⟨a7, e7, rfl, by omega, h14, fun q => s1 (s2 (s3 (s4 (s5 (s6 (s7 q)))))), fun q => node_w (by decide) (by decide) (by decide) rfl ?_, Fit.three _ _ _ fx fy fz⟩
    simpa using ⟨sx (s4 (s5 (s6 (s7 q)))), sy (s6 (s7 q)), sz q⟩
  refine Tt.bind (H a2 e2 h4 (by omega)) ?_
  rintro ⟨_, x⟩ ⟨a3, e3, rfl, h5, h6, s3, sx, fx⟩
  refine Tt.evb (Ev.all fun n => next_n n h6) ?_
  refine Tt.evb (Ev.all fun n => operators_n n) ?_
  dsimp only
  refine Tt.bind (P := fun q : Bool × List Token × Int × Int => InE l a3 e3 ⟨q.2.1, q.2.2.1, q.2.2.2⟩ ∧ (q.1 = false → (mget ops (nextT l a3 e3).Text).isSome = true)) ?_ ?_
  · refine Tt.bif (fun _ => Tt.pure ⟨⟨a3, e3, rfl, Nat.le_refl _, h6, id⟩, fun h => (by cases h)⟩) (fun hs => ?_)
    refine Tt.bind (take_w _ hl h6) ?_
    rintro ⟨_, b3⟩ ⟨a4, e4, rfl, h7, h8, s4⟩
    exact Tt.pure ⟨⟨a4, e4, rfl, by omega, h8, s4⟩, fun _ => by simpa using hs⟩
  rintro ⟨v, f1, f2, f3⟩ ⟨⟨a4, e4, hq, h7, h8, s4⟩, hop⟩
  obtain ⟨rfl, rfl, rfl⟩ : f1 = l ∧ f2 = (a4 : Int) ∧ f3 = e4 := by simpa using hq
  dsimp only
  refine Tt.bif (fun _ => ?_) (fun hv => ?_)
  · exact Tt.pure ⟨a4, f3, rfl, by omega, h8, fun q => s1 (s2 (s3 (s4 q))), fun q => sx (s4 q), fx⟩
  refine Tt.bind (H a4 f3 h8 (by omega)) ?_
  rintro ⟨_, y⟩ ⟨a5, e5, rfl, h9, h10, s5, sy, fy⟩
  refine Tt.pure ⟨a5, e5, rfl, by omega, h10, fun q => s1 (s2 (s3 (s4 (s5 q)))), fun q => ?_, Fit.two _ _ _ fx fy⟩
  obtain ⟨o, ho⟩ := Option.isSome_iff_exists.1 (hop hv)
  dsimp only
  rw [ho]
  exact bin_w (.inr (.inr (mget_op ho))) (sx (s4 (s5 q))) (sy q)
theorem zero_w : Fit (⟨0, 0, [], []⟩ : M.Expr) := Fit.leaf _ _ _
theorem atom_w {l : List Token} (hl : l.length ≤ 1000000) (hw : ∀ t, t ∈ l → Wf t) {a : Nat} (e : Int) (ha : a ≤ l.length) (H : ∀ (b : Nat) (e : Int), a < b → b ≤ l.length → Tt (InS l b e) (fun n => tariff_reader_expr n (Rd l b e))) :
    Tt (InS l a e) (fun n => tariff_reader_atom n (Rd l a e)) := by
  refine Tt.suc (fun n => tariff_reader_atom_s n _) ?_
  refine Tt.evb (Ev.all fun n => next_n n ha) ?_
  dsimp only
  refine Tt.bif (fun h => ?_) (fun _ => ?_)
  · have hk : (nextT l a e).Kind = 1 := by simpa using h
    have h2 := next_lt (e := e) (by rw [hk]; decide)
    have h3 := (hw _ (nextT_mem (by rw [hk]; decide))).2 hk
    rw [inc64 (by omega)]
    refine Tt.pure ⟨a + 1, e, rfl, by omega, h2.1, id, fun _ => Shx.mk (by decide) (by decide) rfl ?_ (by simp), Fit.leaf _ _ _⟩
    unfold nodeok
    rw [if_pos rfl]
    exact ⟨h3, rfl⟩
  refine Tt.bind (P := fun b => b = false → (nextT l a e).Kind ≠ 4) ?_ ?_
  · refine Tt.bif (fun _ => Tt.pure fun h => ?_) (fun h => Tt.pure fun _ => ?_)
    · rw [show (nextT l a e).Kind = 3 by simpa using h]; decide
    · rw [show (nextT l a e).Kind = 0 by simpa using h]; decide
  intro b hb
  have bad : ∀ e : Int, Tt (InS l a e) (fun n => (tariff_reader_fail n (Rd l a e) 12).bind fun v3 => some (v3, (⟨0, 0, [], []⟩ : M.Expr))) := fun e =>
    Tt.evb (Ev.all fun n => fail_n n l a e 12) (Tt.pure ⟨a, _, rfl, Nat.le_refl _, ha, fun h0 => absurd h0 (fail_ne (by decide)), fun h0 => absurd h0 (fail_ne (by decide)), Fit.leaf _ _ _⟩)
  refine Tt.bif (fun _ => bad e) (fun hbf => ?_)
  have h2 := next_lt (hb hbf)
  have e1 : iadd .i64 (a : Int) 1 = ((a + 1 : Nat) : Int) := inc64 (by omega)
  have e2 : isub .i64 ((a + 1 : Nat) : Int) 1 = (a : Int) := dec64 (by omega)
  rw [e1, e2]
  refine Tt.bif (fun _ => ?_) (fun _ => ?_)
  · refine Tt.bind (H (a + 1) e (by omega) h2.1) ?_
    rintro ⟨_, x⟩ ⟨a3, e3, rfl, h5, h6, s3, sx, fx⟩
    refine Tt.bind (need_w hl h6 _ (by simp)) ?_
    rintro _ ⟨a4, e4, rfl, h7, h8, s4⟩
    exact Tt.pure ⟨a4, e4, rfl, by omega, h8, fun q => s3 (s4 q), fun q => sx (s4 q), fx⟩
  have leaf : ∀ o : Int, o = 2 ∨ o = 3 → InS l a e (Rd l (a + 1) e, (⟨o, 0, [], []⟩ : M.Expr)) := fun o ho =>
    ⟨a + 1, e, rfl, by omega, h2.1, id, fun _ => node_w (by omega) (by omega) (by omega) (by rcases ho with rfl | rfl <;> rfl) (by simp), Fit.leaf _ _ _⟩
  refine Tt.bif (fun _ => Tt.pure (leaf 2 (.inl rfl))) (fun _ => ?_)
  refine Tt.bif (fun _ => Tt.pure (leaf 3 (.inr rfl))) (fun _ => ?_)
  refine Tt.cond (fun b6 => ?_) true
  refine Tt.bif (fun _ => ?_) (fun _ => ?_)
  · refine Tt.bind (P := fun o => o = 1 ∨ o = 4) (Tt.bif (fun _ => Tt.pure (.inr rfl)) (fun _ => Tt.pure (.inl rfl))) ?_
    intro f1 hf1
    refine Tt.bind (need_w hl (a := a + 1) h2.1 _ (by simp)) ?_
    rintro _ ⟨a4, e4, rfl, h7, h8, s4⟩
    refine Tt.bind (one_w hl h8 (by decide)) ?_
    rintro ⟨_, t⟩ ⟨a5, e5, rfl, h9, h10, s5, st⟩
    refine Tt.bind (need_w hl h10 _ (by simp)) ?_
    rintro _ ⟨a6, e6, rfl, h11, h12, s6⟩
    refine Tt.pure ⟨a6, e6, rfl, by omega, h12, fun q => s4 (s5 (s6 q)), fun q => Shx.mk (by omega) (by omega) (by rcases hf1 with rfl | rfl <;> rfl) ?_ (by simp), Fit.leaf _ _ _⟩
    unfold nodeok
    rw [if_neg (by omega), if_pos hf1]
    obtain ⟨g1, g2⟩ := st (s6 q)
    exact ⟨rfl, (hw _ g2).1 g1⟩
  refine Tt.cond (fun b10 => ?_) true
  refine Tt.bif (fun _ => ?_) (fun _ => bad e)
  refine Tt.bind (P := fun o => o = 9 ∨ o = 10) (Tt.bif (fun _ => Tt.pure (.inr rfl)) (fun _ => Tt.pure (.inl rfl))) ?_
  intro f2 hf2
  refine Tt.bind (need_w hl (a := a + 1) h2.1 _ (by simp)) ?_
  rintro _ ⟨a4, e4, rfl, h7, h8, s4⟩
  refine Tt.bind (P := fun q : List M.Expr × List Token × Int × Int => ∃ (b : Nat) (e' : Int) (x : M.Expr), (⟨q.2.1, q.2.2.1, q.2.2.2⟩ : reader) = Rd l b e' ∧ a4 ≤ b ∧ b ≤ l.length ∧ (e' = 0 → e4 = 0) ∧ (e' = 0 → Shx x) ∧ Fit x ∧ q.1 = [x]) ?_ ?_
  · refine Tt.bind (H a4 e4 (by omega) h8) ?_
    rintro ⟨_, x⟩ ⟨a5, e5, rfl, h9, h10, s5, sx, fx⟩
    refine Tt.step (app_ok (by simp)) ?_
    exact Tt.pure ⟨a5, e5, x, rfl, h9, h10, s5, sx, fx, rfl⟩
  rintro ⟨l1, f3, f4, f5⟩ ⟨a5, e5, x, hq, h9, h10, s5, sx, fx, hl1⟩
  obtain ⟨rfl, rfl, rfl⟩ : f3 = l ∧ f4 = (a5 : Int) ∧ f5 = e5 := by simpa using hq
  obtain rfl : l1 = [x] := hl1
  dsimp only
  refine Tt.bind (need_w hl h10 _ (by simp)) ?_
  rintro _ ⟨a6, e6, rfl, h11, h12, s6⟩
  refine Tt.bind (P := fun q : List M.Expr × List Token × Int × Int => ∃ (b : Nat) (e' : Int) (y : M.Expr), (⟨q.2.1, q.2.2.1, q.2.2.2⟩ : reader) = Rd f3 b e' ∧ a6 ≤ b ∧ b ≤ f3.length ∧ (e' = 0 → e6 = 0) ∧ (e' = 0 → Shx y) ∧ Fit y ∧ q.1 = [x, y]) ?_ ?_
  · refine Tt.bind (H a6 e6 (by omega) h12) ?_
    rintro ⟨_, y⟩ ⟨a7, e7, rfl, h13, h14, s7, sy, fy⟩
    refine Tt.step (app_ok (by simp)) ?_
    exact Tt.pure ⟨a7, e7, y, rfl, h13, h14, s7, sy, fy, rfl⟩
  rintro ⟨l2, f6, f7, f8⟩ ⟨a7, e7, y, hq2, h13, h14, s7, sy, fy, hl2⟩
  obtain ⟨rfl, rfl, rfl⟩ : f6 = f3 ∧ f7 = (a7 : Int) ∧ f8 = e7 := by simpa using hq2
  obtain rfl : l2 = [x, y] := hl2
  dsimp only
  refine Tt.bind (need_w hl h14 _ (by simp)) ?_
  rintro _ ⟨a8, e8, rfl, h15, h16, s8⟩
  exact Tt.pure ⟨a8, e8, rfl, by omega, h16, fun q => s4 (s5 (s6 (s7 (s8 q)))), fun q => bin_w (by omega) (sx (s6 (s7 (s8 q)))) (sy (s8 q)), Fit.two _ _ _ fx fy⟩
theorem atom_all {l : List Token} (hl : l.length ≤ 1000000) (hw : ∀ t, t ∈ l → Wf t) : ∀ (k a : Nat) (e : Int), a ≤ l.length → l.length - a ≤ k → Tt (InS l a e) (fun n => tariff_reader_atom n (Rd l a e))
  | 0, a, e, ha, hk => atom_w hl hw e ha (fun b _ h1 h2 => absurd h1 (by omega))
  | k + 1, a, e, ha, hk => atom_w hl hw e ha (fun b e' h1 h2 => expr_w hl (atom_all hl hw k) b e' h2 (by omega))
theorem expr_all {l : List Token} (hl : l.length ≤ 1000000) (hw : ∀ t, t ∈ l → Wf t) {a : Nat} {e : Int} (ha : a ≤ l.length) : Tt (InS l a e) (fun n => tariff_reader_expr n (Rd l a e)) :=
  expr_w hl (k := l.length - a) (fun a e h1 h2 => atom_all hl hw _ a e h1 h2) a e ha (Nat.le_refl _)
end Go.Proofs.YtpihabofmnnbbaaDoor.Pr

/-
  PARSE: what it returns can be written, or is nothing, with an error within the text.
-/
namespace Go.Proofs.YtpihabofmnnbbaaDoor.Pr
open Go Rt M Ta Tp

theorem need1_n {l : List Token} {a : Nat} {e : Int} (s : Rt.Bs) (hl : l.length ≤ 1000000) (ha : a ≤ l.length) : Ev (fun n => tariff_reader_need n (Rd l a e) [s]) (Rd l (bif isT l a e s then a + 1 else a) (bif isT l a e s then e else failE e 12)) := by
  refine ⟨2, fun n hn => ?_⟩
  obtain ⟨m, rfl⟩ : ∃ m, n = m + 2 := ⟨n - 2, by omega⟩
  show tariff_reader_need_L1 (m + 2) [s] _ (m + 1 + 1) ((0 : Nat) : Int) l (a : Int) e = _
  rw [tariff_reader_need_L1_s, show decide (((0 : Nat) : Int) < (([s] : List Rt.Bs).length : Int)) = true from rfl, cond_true, show ix [s] ((0 : Nat) : Int) = some s from rfl, Option.bind_some, take_n _ s hl ha, Option.bind_some]
  cases h : isT l a e s with
  | false =>
    dsimp only
    rw [Bool.not_false, cond_true, cond_false, fail_n, Option.bind_some, inc64 (by omega), tariff_reader_need_L1_s, show decide (((0 + 1 : Nat) : Int) < (([s] : List Rt.Bs).length : Int)) = false from rfl]; rfl
  | true =>
    dsimp only
    rw [Bool.not_true, cond_false, cond_true, inc64 (by omega), tariff_reader_need_L1_s, show decide (((0 + 1 : Nat) : Int) < (([s] : List Rt.Bs).length : Int)) = false from rfl]; rfl
abbrev zeroT : Tariff := ⟨[], ⟨0, 0, [], []⟩, 0⟩
def PQ (s : Rt.Bs) (r : Tariff × Int × Int) : Prop := (r.2.2 = 0 → r.2.1 = 0 ∧ Wrt r.1 ∧ Fit r.1.Fee) ∧ (r.2.2 ≠ 0 → r.1 = zeroT ∧ 0 ≤ r.2.1 ∧ r.2.1 ≤ (s.length : Int))
theorem Parse_w {s : Rt.Bs} (hs : s.length ≤ 1000000) : Tt (PQ s) (fun n => tariff_Parse n s) := by
  unfold tariff_Parse
  refine Tt.evb (Scan_ev hs) ?_
  have hl : (Lx.scan s).1.length ≤ 1000000 := Nat.le_trans (scan_len s) hs
  have hwf := scan_wf s
  generalize Lx.scan s = sc at hl hwf ⊢
  obtain ⟨l, at_, e⟩ := sc
  dsimp only at hl hwf ⊢
  obtain ⟨hw, hat⟩ := hwf
  refine Tt.bif (fun he => Tt.pure ⟨fun h => (by dsimp only at h; rw [h] at he; cases he), fun _ => ⟨rfl, by dsimp only; omega, by dsimp only; omega⟩⟩) (fun _ => ?_)
  refine Tt.bind (need_w hl (a := 0) (e := 0) (by omega) _ (by simp)) ?_
  rintro _ ⟨a1, e1, rfl, _, h1, s1⟩
  refine Tt.bind (one_w hl h1 (by decide)) ?_
  rintro ⟨_, t⟩ ⟨a2, e2, rfl, _, h2, s2, st⟩
  refine Tt.bind (need_w hl h2 _ (by simp)) ?_
  rintro _ ⟨a3, e3, rfl, _, h3, s3⟩
  refine Tt.bind (expr_all hl (fun t ht => (hw t ht).1) h3) ?_
  rintro ⟨_, x⟩ ⟨a4, e4, rfl, _, h4, s4, sx, fx⟩
  refine Tt.evb (Ev.all fun n => is_n n _ h4) ?_
  dsimp only at fx sx ⊢
  refine Tt.bind (P := fun q : Bool × Int => isT l a4 e4 [59] = true → q.1 = false → dep x ≤ 10 ∧ cnt x ≤ 100) (Tt.bif (fun _ => ?_) (fun h => Tt.pure fun h2 => (by rw [h2] at h; cases h))) ?_
  · refine Tt.bind (sized_x fx 10 100 (by decide) (by decide)) ?_
    rintro ⟨z, b⟩ hz
    exact Tt.pure fun _ hb => (by
      have := hz.1 (by simpa using hb)
      exact ⟨this.1, this.2.1⟩)
  rintro ⟨v7, w⟩ hv7
  dsimp only at hv7 ⊢
  refine Tt.bind (P := fun q : List Token × Int × Int => ∃ e', (⟨q.1, q.2.1, q.2.2⟩ : reader) = Rd l a4 e' ∧ (e' = 0 → e4 = 0 ∧ v7 = false)) (Tt.bif (fun _ => ?_) (fun h => Tt.pure ⟨e4, rfl, fun h0 => ⟨h0, h⟩⟩)) ?_
  · exact Tt.evb (Ev.all fun n => fail_n n l a4 e4 6) (Tt.pure ⟨_, rfl, fun h0 => absurd h0 (fail_ne (by decide))⟩)
  rintro ⟨f1, f2, f3⟩ ⟨e5, hq, s5⟩
  obtain ⟨rfl, rfl, rfl⟩ : f1 = l ∧ f2 = (a4 : Int) ∧ f3 = e5 := by simpa using hq
  dsimp only
  refine Tt.evb (need1_n (e := f3) [59] hl h4) ?_
  have s6 : (bif isT f1 a4 f3 [59] then f3 else failE f3 12) = 0 → f3 = 0 ∧ isT f1 a4 f3 [59] = true := by
    cases isT f1 a4 f3 [59] with
    | false => exact fun h => absurd h (fail_ne (by decide))
    | true => exact fun h => ⟨h, rfl⟩
  have h6 : (bif isT f1 a4 f3 [59] then a4 + 1 else a4) ≤ f1.length := by
    cases h : isT f1 a4 f3 [59] with
    | false => exact h4
    | true => exact (isT_lt h).1
  generalize (bif isT f1 a4 f3 [59] then a4 + 1 else a4) = a6 at h6 ⊢
  generalize (bif isT f1 a4 f3 [59] then f3 else failE f3 12) = e6 at s6 ⊢
  refine Tt.bind (take_w _ hl h6) ?_
  rintro ⟨_, b⟩ ⟨a7, e7, rfl, _, h7, s7⟩
  refine Tt.bind (P := fun q : Int × List Token × Int × Int => InE f1 a7 e7 ⟨q.2.1, q.2.2.1, q.2.2.2⟩ ∧ (q.2.2.2 = 0 → -1 ≤ q.1 ∧ q.1 ≤ 1099511627776)) (Tt.bif (fun _ => ?_) (fun _ => Tt.pure ⟨⟨a7, e7, rfl, Nat.le_refl _, h7, id⟩, fun _ => (show (-1 : Int) ≤ -1 ∧ (-1 : Int) ≤ 1099511627776 by decide)⟩)) ?_
  · refine Tt.bind (need_w hl h7 _ (by simp)) ?_
    rintro _ ⟨a8, e8, rfl, h71, h8, s8⟩
    refine Tt.bind (one_w hl h8 (by decide)) ?_
    rintro ⟨_, t2⟩ ⟨a9, e9, rfl, h81, h9, s9, st2⟩
    refine Tt.bind (need_w hl h9 _ (by simp)) ?_
    rintro _ ⟨a10, e10, rfl, h91, h10, s10⟩
    refine Tt.pure ⟨⟨a10, e10, rfl, by omega, h10, fun q => s8 (s9 (s10 q))⟩, fun q => ?_⟩
    obtain ⟨g1, g2⟩ := st2 (s10 q)
    have := (hw _ g2).1.2 g1
    dsimp only at this ⊢
    omega
  rintro ⟨f5, f6, f7, f8⟩ ⟨⟨a8, e8, hq8, _, h8, s8⟩, hcap⟩
  obtain ⟨rfl, rfl, rfl⟩ : f6 = f1 ∧ f7 = (a8 : Int) ∧ f8 = e8 := by simpa using hq8
  dsimp only at hcap ⊢
  refine Tt.bind (need_w hl h8 _ (by simp)) ?_
  rintro _ ⟨a9, e9, rfl, _, h9, s9⟩
  refine Tt.bind (P := fun q : List Token × Int × Int => q.2.1 = (a9 : Int) ∧ (q.2.2 = 0 → e9 = 0)) (Tt.bif (fun _ => ?_) (fun _ => Tt.pure ⟨rfl, id⟩)) ?_
  · exact Tt.evb (Ev.all fun n => fail_n n f6 a9 e9 12) (Tt.pure ⟨rfl, fun h0 => absurd h0 (fail_ne (by decide))⟩)
  rintro ⟨g1, g2, g3⟩ ⟨rfl, s10⟩
  dsimp only at s10 ⊢
  refine Tt.bif (fun hz => Tt.pure ⟨fun _ => ⟨rfl, ?_, fx⟩, fun h => absurd rfl h⟩) (fun hnz => ?_)
  · have z9 := s10 (by simpa using hz)
    have z8 := s9 z9
    have z6 := s7 (s8 z8)
    obtain ⟨z5, i5⟩ := s6 z6
    obtain ⟨z4, iv⟩ := s5 z5
    rw [z5, ← z4] at i5
    have hd := hv7 i5 iv
    obtain ⟨k1, k2⟩ := st (s3 (s4 z4))
    exact ⟨(hw _ k2).1.1 k1, ⟨hd, sx z4⟩, hcap z8⟩
  have hne : g3 ≠ 0 := by simpa using hnz
  refine Tt.bif (fun h => ?_) (fun _ => Tt.pure ⟨fun h => absurd h hne, fun _ => ⟨rfl, by dsimp only; omega, by dsimp only; omega⟩⟩)
  have hlt := of_decide_eq_true h
  have hm := hw _ (List.getElem_mem (l := f6) (n := a9) (by omega))
  refine Tt.step (ix_some (l := f6) (i := a9) (by omega)) (Tt.pure ⟨fun h => absurd h hne, fun _ => ⟨rfl, hm.2.1, hm.2.2⟩⟩)
theorem Same_L (x : M.Expr) (hx : x.Args.length ≤ 1000000) (kont : Option Bool) : ∀ (us : List M.Expr) (i : Nat), x.Args.drop i = us → (∀ y, y ∈ us → Ev (fun n => ref35_Same n y y) true) →
    ∃ N, ∀ n m, N ≤ n → us.length < m → ref35_Same_L1 n (ref35_Same n) x x kont m (i : Int) = kont
  | [], i, hd, _ => by
    refine ⟨0, fun n m _ hm => ?_⟩
    obtain ⟨m, rfl⟩ := left hm
    rw [ref35_Same_L1_s, more_no hd]; rfl
  | y :: us, i, hd, H => by
    obtain ⟨h1, h2, h3⟩ := Rt.drop_cons hd
    obtain ⟨N1, e1⟩ := H y (by simp)
    obtain ⟨N, ih⟩ := Same_L x hx kont us (i + 1) h2 (fun z hz => H z (by simp [hz]))
    refine ⟨max N N1, fun n m hn hm => ?_⟩
    obtain ⟨m, rfl, hm2⟩ := pred (by simpa using hm)
    have e1 : ref35_Same n y y = some true := e1 n (by omega)
    rw [ref35_Same_L1_s, more_yes hd, cond_true, h1, Option.bind_some, Option.bind_some, e1, Option.bind_some, Bool.not_true, cond_false, inc64 (by omega)]
    exact ih n m (by omega) hm2
theorem Same_ev {x : M.Expr} (hx : Fit x) : Ev (fun n => ref35_Same n x x) true := by
  induction hx with
  | @mk o k s l hl _ ih =>
    refine Ev.suc (fun n => ref35_Same_s n _ _) ?_
    dsimp only
    refine or_pure (by simp) (by simp) (or_pure rfl (by simp) (or_pure rfl (by simp) (Ev.else rfl ?_)))
    obtain ⟨N, h⟩ := Same_L ⟨o, k, s, l⟩ hl (some true) l 0 rfl ih
    exact ⟨N + l.length + 1, fun n hn => h n n (by omega) (by omega)⟩
theorem SameT_ev {t : Tariff} (hx : Fit t.Fee) : Ev (fun n => ref35_SameTariff n t t) true := by
  unfold ref35_SameTariff
  exact and_pure (by simp) (by simp) (and_call rfl (Same_ev hx) (Ev.pure _))
end Go.Proofs.YtpihabofmnnbbaaDoor.Pr

/-
  READING tokens that differ in their places alone: the same, and the error at the same token.
-/
namespace Go.Proofs.YtpihabofmnnbbaaDoor.Pr
open Go Rt M Ta Tp

/-- two functions of fuel that both answer, and what is true of both answers -/
def T2 {α β : Type} (Q : α → β → Prop) (f : Nat → Option α) (g : Nat → Option β) : Prop := ∃ a b, Ev f a ∧ Ev g b ∧ Q a b
section
variable {α β γ δ : Type} {P : α → β → Prop} {Q : γ → δ → Prop}
theorem T2.pure {a : γ} {b : δ} (h : Q a b) : T2 Q (fun _ => some a) (fun _ => some b) := ⟨a, b, Ev.pure a, Ev.pure b, h⟩
theorem T2.bind {x : Nat → Option α} {y : Nat → Option β} {f : Nat → α → Option γ} {g : Nat → β → Option δ} (h : T2 P x y) (k : ∀ a b, P a b → T2 Q (fun n => f n a) (fun n => g n b)) : T2 Q (fun n => (x n).bind (f n)) (fun n => (y n).bind (g n)) := by
  obtain ⟨a, b, h1, h2, h3⟩ := h
  obtain ⟨c, d, h4, h5, h6⟩ := k a b h3
  exact ⟨c, d, Ev.bind h1 h4, Ev.bind h2 h5, h6⟩
theorem T2.l {x : Nat → Option α} {a : α} {f : Nat → α → Option γ} {g : Nat → Option δ} (h : Ev x a) (k : T2 Q (fun n => f n a) g) : T2 Q (fun n => (x n).bind (f n)) g := by
  obtain ⟨c, d, h4, h5, h6⟩ := k
  exact ⟨c, d, Ev.bind h h4, h5, h6⟩
theorem T2.r {y : Nat → Option β} {b : β} {f : Nat → Option γ} {g : Nat → β → Option δ} (h : Ev y b) (k : T2 Q f (fun n => g n b)) : T2 Q f (fun n => (y n).bind (g n)) := by
  obtain ⟨c, d, h4, h5, h6⟩ := k
  exact ⟨c, d, h4, Ev.bind h h5, h6⟩
theorem T2.bif {c : Bool} {x x' : Nat → Option γ} {y y' : Nat → Option δ} (h1 : c = true → T2 Q x y) (h2 : c = false → T2 Q x' y') : T2 Q (fun n => bif c then x n else x' n) (fun n => bif c then y n else y' n) := by
  cases c
  · exact h2 rfl
  · exact h1 rfl
theorem T2.lt {c : Bool} {x x' : Nat → Option γ} {g : Nat → Option δ} (hc : c = true) (h : T2 Q x g) : T2 Q (fun n => bif c then x n else x' n) g := by subst hc; exact h
theorem T2.lf {c : Bool} {x x' : Nat → Option γ} {g : Nat → Option δ} (hc : c = false) (h : T2 Q x' g) : T2 Q (fun n => bif c then x n else x' n) g := by subst hc; exact h
theorem T2.rt {c : Bool} {f : Nat → Option γ} {y y' : Nat → Option δ} (hc : c = true) (h : T2 Q f y) : T2 Q f (fun n => bif c then y n else y' n) := by subst hc; exact h
theorem T2.rf {c : Bool} {f : Nat → Option γ} {y y' : Nat → Option δ} (hc : c = false) (h : T2 Q f y') : T2 Q f (fun n => bif c then y n else y' n) := by subst hc; exact h
theorem T2.suc {f f' : Nat → Option γ} {g g' : Nat → Option δ} (e : ∀ n, f (n + 1) = f' n) (e' : ∀ n, g (n + 1) = g' n) (h : T2 Q f' g') : T2 Q f g := by
  obtain ⟨c, d, h4, h5, h6⟩ := h
  exact ⟨c, d, Ev.suc e h4, Ev.suc e' h5, h6⟩
theorem T2.sucr {f : Nat → Option γ} {g g' : Nat → Option δ} (e' : ∀ n, g (n + 1) = g' n) (h : T2 Q f g') : T2 Q f g := by
  obtain ⟨c, d, h4, h5, h6⟩ := h
  exact ⟨c, d, h4, Ev.suc e' h5, h6⟩
theorem T2.weak {Q' : γ → δ → Prop} {f : Nat → Option γ} {g : Nat → Option δ} (h : T2 Q f g) (k : ∀ a b, Q a b → Q' a b) : T2 Q' f g := by
  obtain ⟨c, d, h4, h5, h6⟩ := h
  exact ⟨c, d, h4, h5, k c d h6⟩
end


/-! tokens that differ in their places -/
def Lk (l k : List Token) : Prop := l.map strip = k.map strip
theorem Lk.len {l k : List Token} (h : Lk l k) : l.length = k.length := by
  have := congrArg List.length h
  simpa using this
theorem Lk.next {l k : List Token} (h : Lk l k) (a : Nat) (e : Int) : (nextT l a e).Kind = (nextT k a e).Kind ∧ (nextT l a e).Text = (nextT k a e).Text ∧ (nextT l a e).N = (nextT k a e).N := by
  unfold nextT
  by_cases he : e = 0
  · rw [if_pos he, if_pos he]
    have h1 := congrArg (fun q => q[a]?) h
    simp only [List.getElem?_map] at h1
    cases h2 : l[a]? with
    | none =>
      rw [h2] at h1
      cases h3 : k[a]? with
      | none => exact ⟨rfl, rfl, rfl⟩
      | some u => rw [h3] at h1; cases h1
    | some t =>
      rw [h2] at h1
      cases h3 : k[a]? with
      | none => rw [h3] at h1; cases h1
      | some u =>
        rw [h3] at h1
        have h4 : strip t = strip u := Option.some.inj h1
        exact ⟨congrArg (·.Kind) h4, congrArg (·.Text) h4, congrArg (·.N) h4⟩
  · rw [if_neg he, if_neg he]
    exact ⟨rfl, rfl, rfl⟩
theorem Lk.is {l k : List Token} (h : Lk l k) (a : Nat) (e : Int) (s : Rt.Bs) : isT l a e s = isT k a e s := by
  obtain ⟨h1, h2, _⟩ := h.next a e
  unfold isT
  rw [h1, h2]
def I2 (l k : List Token) (a : Nat) (r q : reader) : Prop := ∃ (b : Nat) (e : Int), r = Rd l b e ∧ q = Rd k b e ∧ a ≤ b ∧ b ≤ l.length
def X2 (l k : List Token) (a : Nat) (p q : reader × M.Expr) : Prop := ∃ (b : Nat) (e : Int), p.1 = Rd l b e ∧ q.1 = Rd k b e ∧ a ≤ b ∧ b ≤ l.length ∧ p.2 = q.2 ∧ Fit p.2
theorem take_l {l k : List Token} (h : Lk l k) {a : Nat} {e : Int} (s : Rt.Bs) (hl : l.length ≤ 1000000) (ha : a ≤ l.length) : T2 (fun p q => I2 l k a p.1 q.1 ∧ p.2 = q.2) (fun n => tariff_reader_take n (Rd l a e) s) (fun n => tariff_reader_take n (Rd k a e) s) := by
  have hlen := h.len
  refine ⟨_, _, Ev.all fun n => take_n n s hl ha, Ev.all fun n => take_n n s (by omega) (by omega), ?_, h.is a e s⟩
  rw [← h.is a e s]
  cases hi : isT l a e s with
  | false => exact ⟨a, e, rfl, rfl, Nat.le_refl _, ha⟩
  | true => exact ⟨a + 1, e, rfl, rfl, by omega, (isT_lt hi).1⟩
theorem need_LL {l k : List Token} (h : Lk l k) (hl : l.length ≤ 1000000) (ws : List Rt.Bs) (hw : ws.length ≤ 1000) : ∀ (us : List Rt.Bs) (i a : Nat) (e : Int), ws.drop i = us → a ≤ l.length →
    ∃ r q, I2 l k a r q ∧ ∀ n m, us.length < m → tariff_reader_need_L1 n ws (fun f4 f5 f6 => some (⟨f4, f5, f6⟩ : reader)) m (i : Int) l (a : Int) e = some r ∧ tariff_reader_need_L1 n ws (fun f4 f5 f6 => some (⟨f4, f5, f6⟩ : reader)) m (i : Int) k (a : Int) e = some q
  | [], i, a, e, hd, ha => by
    refine ⟨Rd l a e, Rd k a e, ⟨a, e, rfl, rfl, Nat.le_refl _, ha⟩, fun n m hm => ?_⟩
    obtain ⟨m, rfl⟩ := left hm
    rw [tariff_reader_need_L1_s, more_no hd, tariff_reader_need_L1_s, more_no hd]
    exact ⟨rfl, rfl⟩
  | u :: us, i, a, e, hd, ha => by
    have hlen := h.len
    obtain ⟨h1, h2, h3⟩ := Rt.drop_cons hd
    have his := h.is a e u
    cases hi : isT l a e u with
    | false =>
      rw [hi] at his
      obtain ⟨r, q, ⟨b, e', hr, hq, g1, g2⟩, ih⟩ := need_LL h hl ws hw us (i + 1) a (failE e 12) h2 ha
      refine ⟨r, q, ⟨b, e', hr, hq, g1, g2⟩, fun n m hm => ?_⟩
      obtain ⟨m, rfl, hm2⟩ := pred (by simpa using hm)
      rw [tariff_reader_need_L1_s, more_yes hd, cond_true, h1, Option.bind_some, take_n n u hl ha, Option.bind_some, hi, tariff_reader_need_L1_s, more_yes hd, cond_true, h1, Option.bind_some, take_n n u (by omega) (by omega), Option.bind_some, ← his]
      dsimp only
      rw [Bool.not_false, cond_true, cond_false, fail_n, Option.bind_some, inc64 (by omega), cond_true, fail_n, Option.bind_some]
      exact ih n m hm2
    | true =>
      rw [hi] at his
      have h4 := isT_lt hi
      obtain ⟨r, q, ⟨b, e', hr, hq, g1, g2⟩, ih⟩ := need_LL h hl ws hw us (i + 1) (a + 1) e h2 h4.1
      refine ⟨r, q, ⟨b, e', hr, hq, by omega, g2⟩, fun n m hm => ?_⟩
      obtain ⟨m, rfl, hm2⟩ := pred (by simpa using hm)
      rw [tariff_reader_need_L1_s, more_yes hd, cond_true, h1, Option.bind_some, take_n n u hl ha, Option.bind_some, hi, tariff_reader_need_L1_s, more_yes hd, cond_true, h1, Option.bind_some, take_n n u (by omega) (by omega), Option.bind_some, ← his]
      dsimp only
      rw [Bool.not_true, cond_false, cond_true, inc64 (by omega), cond_false]
      exact ih n m hm2
theorem need_l {l k : List Token} (h : Lk l k) (hl : l.length ≤ 1000000) {a : Nat} {e : Int} (ha : a ≤ l.length) (ws : List Rt.Bs) (hw : ws.length ≤ 1000) : T2 (I2 l k a) (fun n => tariff_reader_need n (Rd l a e) ws) (fun n => tariff_reader_need n (Rd k a e) ws) := by
  obtain ⟨r, q, hr, ih⟩ := need_LL h hl ws hw ws 0 a e rfl ha
  exact ⟨r, q, ⟨ws.length + 1, fun n hn => (ih n n (by omega)).1⟩, ⟨ws.length + 1, fun n hn => (ih n n (by omega)).2⟩, hr⟩
theorem one_l {l k : List Token} (h : Lk l k) (hl : l.length ≤ 1000000) {a : Nat} {e : Int} (ha : a ≤ l.length) {c : Int} (hc : c ≠ 4) : T2 (fun p q => I2 l k a p.1 q.1 ∧ p.2.Text = q.2.Text ∧ p.2.N = q.2.N) (fun n => tariff_reader_one n (Rd l a e) c) (fun n => tariff_reader_one n (Rd k a e) c) := by
  have hlen := h.len
  obtain ⟨g1, g2, g3⟩ := h.next a e
  unfold tariff_reader_one
  refine T2.l (Ev.all fun n => next_n n ha) (T2.r (Ev.all fun n => next_n n (by omega)) ?_)
  dsimp only
  rw [← g1]
  refine T2.bif (fun hb => ?_) (fun hb => ?_)
  · exact T2.l (Ev.all fun n => fail_n n l a e 12) (T2.r (Ev.all fun n => fail_n n k a e 12) (T2.pure ⟨⟨a, _, rfl, rfl, Nat.le_refl _, ha⟩, rfl, rfl⟩))
  · have h1 : (nextT l a e).Kind = c := by simpa using hb
    have h2 := next_lt (by rw [h1]; exact hc)
    rw [inc64 (by omega)]
    exact T2.pure ⟨⟨a + 1, e, rfl, rfl, by omega, h2.1⟩, g2, g3⟩

theorem expr_l {l k : List Token} (h : Lk l k) (hl : l.length ≤ 1000000) {d : Nat} (H : ∀ (a : Nat) (e : Int), a ≤ l.length → l.length - a ≤ d → T2 (X2 l k a) (fun n => tariff_reader_atom n (Rd l a e)) (fun n => tariff_reader_atom n (Rd k a e))) (a : Nat) (e : Int) (ha : a ≤ l.length) (hk : l.length - a ≤ d) :
    T2 (X2 l k a) (fun n => tariff_reader_expr n (Rd l a e)) (fun n => tariff_reader_expr n (Rd k a e)) := by
  have hlen := h.len
  refine T2.suc (fun n => tariff_reader_expr_s n _) (fun n => tariff_reader_expr_s n _) ?_
  refine T2.bind (take_l h _ hl ha) ?_
  rintro ⟨_, b⟩ ⟨_, _⟩ ⟨⟨a1, e1, rfl, rfl, h1, h2⟩, rfl⟩
  refine T2.bif (fun _ => ?_) (fun _ => ?_)
  · refine T2.bind (H a1 e1 h2 (by omega)) ?_
    rintro ⟨_, x⟩ ⟨_, _⟩ ⟨a2, e2, rfl, rfl, h3, h4, rfl, fx⟩
    exact T2.pure ⟨a2, e2, rfl, rfl, by omega, h4, rfl, Fit.one _ _ _ fx⟩
  refine T2.bind (take_l h _ hl h2) ?_
  rintro ⟨_, b2⟩ ⟨_, _⟩ ⟨⟨a2, e2, rfl, rfl, h3, h4⟩, rfl⟩
  refine T2.bif (fun _ => ?_) (fun _ => ?_)
  · refine T2.bind (H a2 e2 h4 (by omega)) ?_
    rintro ⟨_, x⟩ ⟨_, _⟩ ⟨a3, e3, rfl, rfl, h5, h6, rfl, fx⟩
    refine T2.bind (need_l h hl h6 _ (by simp)) ?_
    rintro _ _ ⟨a4, e4, rfl, rfl, h7, h8⟩
    refine T2.bind (H a4 e4 h8 (by omega)) ?_
    rintro ⟨_, y⟩ ⟨_, _⟩ ⟨a5, e5, rfl, rfl, h9, h10, rfl, fy⟩
    refine T2.bind (need_l h hl h10 _ (by simp)) ?_
    rintro _ _ ⟨a6, e6, rfl, rfl, h11, h12⟩
    refine T2.bind (H a6 e6 h12 (by omega)) ?_
    rintro ⟨_, z⟩ ⟨_, _⟩ ⟨a7, e7, rfl, rfl, h13, h14, rfl, fz⟩
    exact T2.pure ⟨a7, e7, rfl, rfl, by omega, h14, rfl, Fit.three _ _ _ fx fy fz⟩
  refine T2.bind (H a2 e2 h4 (by omega)) ?_
  rintro ⟨_, x⟩ ⟨_, _⟩ ⟨a3, e3, rfl, rfl, h5, h6, rfl, fx⟩
  refine T2.l (Ev.all fun n => next_n n h6) (T2.r (Ev.all fun n => next_n n (by omega)) ?_)
  refine T2.l (Ev.all fun n => operators_n n) (T2.r (Ev.all fun n => operators_n n) ?_)
  dsimp only
  rw [← (h.next a3 e3).2.1]
  refine T2.bind (P := fun p q : Bool × List Token × Int × Int => I2 l k a3 ⟨p.2.1, p.2.2.1, p.2.2.2⟩ ⟨q.2.1, q.2.2.1, q.2.2.2⟩ ∧ p.1 = q.1) ?_ ?_
  · refine T2.bif (fun _ => T2.pure ⟨⟨a3, e3, rfl, rfl, Nat.le_refl _, h6⟩, rfl⟩) (fun hs => ?_)
    refine T2.bind (take_l h _ hl h6) ?_
    rintro ⟨_, b3⟩ ⟨_, _⟩ ⟨⟨a4, e4, rfl, rfl, h7, h8⟩, rfl⟩
    exact T2.pure ⟨⟨a4, e4, rfl, rfl, by omega, h8⟩, rfl⟩
  rintro ⟨v, f1, f2, f3⟩ ⟨_, g1, g2, g3⟩ ⟨⟨a4, e4, hq, hq2, h7, h8⟩, rfl⟩
  obtain ⟨rfl, rfl, rfl⟩ : f1 = l ∧ f2 = (a4 : Int) ∧ f3 = e4 := by simpa using hq
  obtain ⟨rfl, rfl, rfl⟩ : g1 = k ∧ g2 = (a4 : Int) ∧ g3 = f3 := by simpa using hq2
  dsimp only
  refine T2.bif (fun _ => ?_) (fun hv => ?_)
  · exact T2.pure ⟨a4, g3, rfl, rfl, by omega, h8, rfl, fx⟩
  refine T2.bind (H a4 g3 h8 (by omega)) ?_
  rintro ⟨_, y⟩ ⟨_, _⟩ ⟨a5, e5, rfl, rfl, h9, h10, rfl, fy⟩
  exact T2.pure ⟨a5, e5, rfl, rfl, by omega, h10, rfl, Fit.two _ _ _ fx fy⟩
theorem atom_l {l k : List Token} (hlk : Lk l k) (hl : l.length ≤ 1000000) {a : Nat} (e : Int) (ha : a ≤ l.length) (H : ∀ (b : Nat) (e : Int), a < b → b ≤ l.length → T2 (X2 l k b) (fun n => tariff_reader_expr n (Rd l b e)) (fun n => tariff_reader_expr n (Rd k b e))) :
    T2 (X2 l k a) (fun n => tariff_reader_atom n (Rd l a e)) (fun n => tariff_reader_atom n (Rd k a e)) := by
  have hlen := hlk.len
  refine T2.suc (fun n => tariff_reader_atom_s n _) (fun n => tariff_reader_atom_s n _) ?_
  refine T2.l (Ev.all fun n => next_n n ha) (T2.r (Ev.all fun n => next_n n (by omega)) ?_)
  have hnx := hlk.next a e
  have hlt : (nextT l a e).Kind ≠ 4 → a < l.length := fun h => (next_lt h).1
  generalize nextT l a e = t1 at hnx hlt
  generalize nextT k a e = t2 at hnx
  obtain ⟨k1, x1, n1, p1⟩ := t1
  obtain ⟨k2, x2, n2, p2⟩ := t2
  obtain ⟨rfl, rfl, rfl⟩ : k1 = k2 ∧ x1 = x2 ∧ n1 = n2 := hnx
  dsimp only at hlt ⊢
  refine T2.bif (fun h => ?_) (fun _ => ?_)
  · have hk : k1 = 1 := by simpa using h
    have h2 := hlt (by rw [hk]; decide)
    rw [inc64 (by omega)]
    exact T2.pure ⟨a + 1, e, rfl, rfl, by omega, h2, rfl, Fit.leaf _ _ _⟩
  refine T2.bind (P := fun b c => b = c ∧ (b = false → k1 ≠ 4)) ?_ ?_
  · refine T2.bif (fun _ => T2.pure ⟨rfl, fun h => ?_⟩) (fun h => T2.pure ⟨rfl, fun _ => ?_⟩)
    · rw [show k1 = 3 by simpa using h]; decide
    · rw [show k1 = 0 by simpa using h]; decide
  rintro b _ ⟨rfl, hb⟩
  have bad : ∀ e : Int, T2 (X2 l k a) (fun n => (tariff_reader_fail n (Rd l a e) 12).bind fun v3 => some (v3, (⟨0, 0, [], []⟩ : M.Expr))) (fun n => (tariff_reader_fail n (Rd k a e) 12).bind fun v3 => some (v3, (⟨0, 0, [], []⟩ : M.Expr))) := fun e =>
    T2.l (Ev.all fun n => fail_n n l a e 12) (T2.r (Ev.all fun n => fail_n n k a e 12) (T2.pure ⟨a, _, rfl, rfl, Nat.le_refl _, ha, rfl, Fit.leaf _ _ _⟩))
  refine T2.bif (fun _ => bad e) (fun hbf => ?_)
  have h2 := hlt (hb hbf)
  have e1 : iadd .i64 (a : Int) 1 = ((a + 1 : Nat) : Int) := inc64 (by omega)
  have e2 : isub .i64 ((a + 1 : Nat) : Int) 1 = (a : Int) := dec64 (by omega)
  rw [e1, e2]
  refine T2.bif (fun _ => ?_) (fun _ => ?_)
  · refine T2.bind (H (a + 1) e (by omega) h2) ?_
    rintro ⟨_, x⟩ ⟨_, _⟩ ⟨a3, e3, rfl, rfl, h5, h6, rfl, fx⟩
    refine T2.bind (need_l hlk hl h6 _ (by simp)) ?_
    rintro _ _ ⟨a4, e4, rfl, rfl, h7, h8⟩
    exact T2.pure ⟨a4, e4, rfl, rfl, by omega, h8, rfl, fx⟩
  refine T2.bif (fun _ => T2.pure ⟨a + 1, e, rfl, rfl, by omega, h2, rfl, Fit.leaf _ _ _⟩) (fun _ => ?_)
  refine T2.bif (fun _ => T2.pure ⟨a + 1, e, rfl, rfl, by omega, h2, rfl, Fit.leaf _ _ _⟩) (fun _ => ?_)
  refine T2.bind (P := Eq) (T2.bif (fun _ => T2.pure rfl) (fun _ => T2.pure rfl)) ?_
  rintro b6 _ rfl
  refine T2.bif (fun _ => ?_) (fun _ => ?_)
  · refine T2.bind (P := Eq) (T2.bif (fun _ => T2.pure rfl) (fun _ => T2.pure rfl)) ?_
    rintro f1 _ rfl
    refine T2.bind (need_l hlk hl (a := a + 1) h2 _ (by simp)) ?_
    rintro _ _ ⟨a4, e4, rfl, rfl, h7, h8⟩
    refine T2.bind (one_l hlk hl h8 (by decide)) ?_
    rintro ⟨_, t⟩ ⟨_, u⟩ ⟨⟨a5, e5, rfl, rfl, h9, h10⟩, tx, _⟩
    refine T2.bind (need_l hlk hl h10 _ (by simp)) ?_
    rintro _ _ ⟨a6, e6, rfl, rfl, h11, h12⟩
    dsimp only at tx ⊢
    rw [tx]
    exact T2.pure ⟨a6, e6, rfl, rfl, by omega, h12, rfl, Fit.leaf _ _ _⟩
  refine T2.bind (P := Eq) (T2.bif (fun _ => T2.pure rfl) (fun _ => T2.pure rfl)) ?_
  rintro b10 _ rfl
  refine T2.bif (fun _ => ?_) (fun _ => bad e)
  refine T2.bind (P := Eq) (T2.bif (fun _ => T2.pure rfl) (fun _ => T2.pure rfl)) ?_
  rintro f2 _ rfl
  refine T2.bind (need_l hlk hl (a := a + 1) h2 _ (by simp)) ?_
  rintro _ _ ⟨a4, e4, rfl, rfl, h7, h8⟩
  refine T2.bind (P := fun p q : List M.Expr × List Token × Int × Int => ∃ (b : Nat) (e' : Int) (x : M.Expr), (⟨p.2.1, p.2.2.1, p.2.2.2⟩ : reader) = Rd l b e' ∧ (⟨q.2.1, q.2.2.1, q.2.2.2⟩ : reader) = Rd k b e' ∧ a4 ≤ b ∧ b ≤ l.length ∧ Fit x ∧ p.1 = [x] ∧ q.1 = [x]) ?_ ?_
  · refine T2.bind (H a4 e4 (by omega) h8) ?_
    rintro ⟨_, x⟩ ⟨_, _⟩ ⟨a5, e5, rfl, rfl, h9, h10, rfl, fx⟩
    refine T2.l (Ev.all fun _ => app_ok (by simp)) (T2.r (Ev.all fun _ => app_ok (by simp)) ?_)
    exact T2.pure ⟨a5, e5, x, rfl, rfl, h9, h10, fx, rfl, rfl⟩
  rintro ⟨l1, f3, f4, f5⟩ ⟨l1', g3, g4, g5⟩ ⟨a5, e5, x, hq, hq', h9, h10, fx, hl1, hl1'⟩
  obtain ⟨rfl, rfl, rfl⟩ : f3 = l ∧ f4 = (a5 : Int) ∧ f5 = e5 := by simpa using hq
  obtain ⟨rfl, rfl, rfl⟩ : g3 = k ∧ g4 = (a5 : Int) ∧ g5 = f5 := by simpa using hq'
  obtain rfl : l1 = [x] := hl1
  obtain rfl : l1' = [x] := hl1'
  dsimp only
  refine T2.bind (need_l hlk hl h10 _ (by simp)) ?_
  rintro _ _ ⟨a6, e6, rfl, rfl, h11, h12⟩
  refine T2.bind (P := fun p q : List M.Expr × List Token × Int × Int => ∃ (b : Nat) (e' : Int) (y : M.Expr), (⟨p.2.1, p.2.2.1, p.2.2.2⟩ : reader) = Rd f3 b e' ∧ (⟨q.2.1, q.2.2.1, q.2.2.2⟩ : reader) = Rd g3 b e' ∧ a6 ≤ b ∧ b ≤ f3.length ∧ Fit y ∧ p.1 = [x, y] ∧ q.1 = [x, y]) ?_ ?_
  · refine T2.bind (H a6 e6 (by omega) h12) ?_
    rintro ⟨_, y⟩ ⟨_, _⟩ ⟨a7, e7, rfl, rfl, h13, h14, rfl, fy⟩
    refine T2.l (Ev.all fun _ => app_ok (by simp)) (T2.r (Ev.all fun _ => app_ok (by simp)) ?_)
    exact T2.pure ⟨a7, e7, y, rfl, rfl, h13, h14, fy, rfl, rfl⟩
  rintro ⟨l2, f6, f7, f8⟩ ⟨l2', g6, g7, g8⟩ ⟨a7, e7, y, hq2, hq2', h13, h14, fy, hl2, hl2'⟩
  obtain ⟨rfl, rfl, rfl⟩ : f6 = f3 ∧ f7 = (a7 : Int) ∧ f8 = e7 := by simpa using hq2
  obtain ⟨rfl, rfl, rfl⟩ : g6 = g3 ∧ g7 = (a7 : Int) ∧ g8 = f8 := by simpa using hq2'
  obtain rfl : l2 = [x, y] := hl2
  obtain rfl : l2' = [x, y] := hl2'
  dsimp only
  refine T2.bind (need_l hlk hl h14 _ (by simp)) ?_
  rintro _ _ ⟨a8, e8, rfl, rfl, h15, h16⟩
  exact T2.pure ⟨a8, e8, rfl, rfl, by omega, h16, rfl, Fit.two _ _ _ fx fy⟩
theorem atom_lk {l k : List Token} (h : Lk l k) (hl : l.length ≤ 1000000) : ∀ (d a : Nat) (e : Int), a ≤ l.length → l.length - a ≤ d → T2 (X2 l k a) (fun n => tariff_reader_atom n (Rd l a e)) (fun n => tariff_reader_atom n (Rd k a e))
  | 0, a, e, ha, hk => atom_l h hl e ha (fun b _ h1 h2 => absurd h1 (by omega))
  | d + 1, a, e, ha, hk => atom_l h hl e ha (fun b e' h1 h2 => expr_l h hl (atom_lk h hl d) b e' h2 (by omega))
theorem expr_lk {l k : List Token} (h : Lk l k) (hl : l.length ≤ 1000000) {a : Nat} {e : Int} (ha : a ≤ l.length) : T2 (X2 l k a) (fun n => tariff_reader_expr n (Rd l a e)) (fun n => tariff_reader_expr n (Rd k a e)) :=
  expr_l h hl (d := l.length - a) (fun a e h1 h2 => atom_lk h hl _ a e h1 h2) a e ha (Nat.le_refl _)
end Go.Proofs.YtpihabofmnnbbaaDoor.Pr

/-
  BLANKS before a text move its tokens and its error.
-/
namespace Go.Proofs.YtpihabofmnnbbaaDoor.Pr
open Go Rt M Ta Tp

def shf (k : Nat) (t : Token) : Token := ⟨t.Kind, t.Text, t.N, t.Pos + (k : Int)⟩
theorem scanF_fuel : ∀ (f g : Nat) (r : Rt.Bs) (a : Nat), r.length < f → r.length < g → Lx.scanF f r a = Lx.scanF g r a
  | 0, _, _, _, h, _ => absurd h (by omega)
  | f + 1, g, r, a, hf, hg => by
    obtain ⟨g, rfl⟩ := left hg
    by_cases hend : Lx.gapN false r = r.length
    · rw [Lx.scanF_end hend, Lx.scanF_end hend]
    have hgp := Lx.gapN_le false r
    by_cases hx : (Lx.next (r.drop (Lx.gapN false r))).2.2 = 0
    · have h2 : r.drop (Lx.gapN false r) ≠ [] := by
        intro e; have := congrArg List.length e; simp only [List.length_drop, List.length_nil] at this; omega
      have h4 := Lx.next_len h2 hx
      simp only [List.length_drop] at h4
      rw [Lx.scanF_more hend hx, Lx.scanF_more hend hx, scanF_fuel f g _ _ (by simp only [List.length_drop]; omega) (by simp only [List.length_drop]; omega)]
    · rw [Lx.scanF_bad hend hx, Lx.scanF_bad hend hx]
theorem scanF_zero : ∀ (f : Nat) (r : Rt.Bs) (a : Nat), (Lx.scanF f r a).2.2 = 0 → (Lx.scanF f r a).2.1 = 0
  | 0, _, _, _ => rfl
  | f + 1, r, a, h => by
    by_cases hend : Lx.gapN false r = r.length
    · rw [Lx.scanF_end hend]
    by_cases hx : (Lx.next (r.drop (Lx.gapN false r))).2.2 = 0
    · rw [Lx.scanF_more hend hx] at h ⊢
      split
      · rename_i h2
        rw [if_pos h2] at h
        exact absurd h h2
      · rfl
    · rw [Lx.scanF_bad hend hx] at h
      exact absurd h hx
theorem scanF_shift (k : Nat) : ∀ (f : Nat) (r : Rt.Bs) (a : Nat), (Lx.scanF f r (a + k)).1 = (Lx.scanF f r a).1.map (shf k) ∧ (Lx.scanF f r (a + k)).2.2 = (Lx.scanF f r a).2.2 ∧ ((Lx.scanF f r a).2.2 ≠ 0 → (Lx.scanF f r (a + k)).2.1 = (Lx.scanF f r a).2.1 + k)
  | 0, _, _ => ⟨rfl, rfl, fun h => absurd rfl h⟩
  | f + 1, r, a => by
    by_cases hend : Lx.gapN false r = r.length
    · rw [Lx.scanF_end hend, Lx.scanF_end hend]
      exact ⟨rfl, rfl, fun h => absurd rfl h⟩
    by_cases hx : (Lx.next (r.drop (Lx.gapN false r))).2.2 = 0
    · have ih := scanF_shift k f (r.drop (Lx.gapN false r + (Lx.next (r.drop (Lx.gapN false r))).2.1)) (a + Lx.gapN false r + (Lx.next (r.drop (Lx.gapN false r))).2.1)
      rw [Lx.scanF_more hend hx, Lx.scanF_more hend hx, show a + k + Lx.gapN false r + (Lx.next (r.drop (Lx.gapN false r))).2.1 = a + Lx.gapN false r + (Lx.next (r.drop (Lx.gapN false r))).2.1 + k by omega]
      obtain ⟨i1, i2, i3⟩ := ih
      by_cases h2 : (Lx.scanF f (r.drop (Lx.gapN false r + (Lx.next (r.drop (Lx.gapN false r))).2.1)) (a + Lx.gapN false r + (Lx.next (r.drop (Lx.gapN false r))).2.1)).2.2 ≠ 0
      · rw [if_pos h2, if_pos (by rw [i2]; exact h2)]
        exact ⟨i1, i2, i3⟩
      · rw [if_neg h2, if_neg (by rw [i2]; exact h2)]
        refine ⟨?_, rfl, fun h => absurd rfl h⟩
        show _ :: _ = List.map (shf k) (_ :: _)
        rw [List.map_cons, i1]
        congr 1
        unfold shf
        dsimp only
        rw [show ((a + k + Lx.gapN false r : Nat) : Int) = ((a + Lx.gapN false r : Nat) : Int) + (k : Int) by omega]
    · rw [Lx.scanF_bad hend hx, Lx.scanF_bad hend hx]
      exact ⟨rfl, rfl, fun _ => by dsimp only; omega⟩
theorem scanF_blank (f : Nat) (r : Rt.Bs) (a : Nat) : Lx.scanF (f + 1) (32 :: r) a = Lx.scanF (f + 1) r (a + 1) := by
  have hg : Lx.gapN false (32 :: r) = Lx.gapN false r + 1 := by
    rw [Lx.gapN, show Lx.isBlank 32 = true by decide, if_pos rfl]
  have hd : ∀ i, (32 :: r).drop (i + 1) = r.drop i := fun i => rfl
  by_cases hend : Lx.gapN false r = r.length
  · rw [Lx.scanF_end hend, Lx.scanF_end (by rw [hg, hend]; rfl)]
  have hend2 : Lx.gapN false (32 :: r) ≠ (32 :: r).length := by rw [hg, List.length_cons]; omega
  have e1 : (32 :: r).drop (Lx.gapN false (32 :: r)) = r.drop (Lx.gapN false r) := by rw [hg, hd]
  by_cases hx : (Lx.next (r.drop (Lx.gapN false r))).2.2 = 0
  · rw [Lx.scanF_more hend hx, Lx.scanF_more hend2 (by rw [e1]; exact hx), e1, hg]
    rw [show Lx.gapN false r + 1 + (Lx.next (r.drop (Lx.gapN false r))).2.1 = (Lx.gapN false r + (Lx.next (r.drop (Lx.gapN false r))).2.1) + 1 by omega, hd, show a + (Lx.gapN false r + 1) = a + 1 + Lx.gapN false r by omega]
  · rw [Lx.scanF_bad hend hx, Lx.scanF_bad hend2 (by rw [e1]; exact hx), e1, hg, show a + (Lx.gapN false r + 1) = a + 1 + Lx.gapN false r by omega]
theorem scanF_blanks (f : Nat) (r : Rt.Bs) : ∀ (k a : Nat), Lx.scanF (f + 1) (List.replicate k 32 ++ r) a = Lx.scanF (f + 1) r (a + k)
  | 0, a => rfl
  | k + 1, a => by
    show Lx.scanF (f + 1) (32 :: (List.replicate k 32 ++ r)) a = _
    rw [scanF_blank, scanF_blanks f r k (a + 1), show a + 1 + k = a + (k + 1) by omega]
theorem scan_blanks {s : Rt.Bs} {k : Nat} (h : s.length + k ≤ 4000) : (Lx.scan (List.replicate k 32 ++ s)).1 = (Lx.scan s).1.map (shf k) ∧ (Lx.scan (List.replicate k 32 ++ s)).2.2 = (Lx.scan s).2.2 ∧ ((Lx.scan s).2.2 ≠ 0 → (Lx.scan (List.replicate k 32 ++ s)).2.1 = (Lx.scan s).2.1 + k) := by
  have hl : (List.replicate k (32 : UInt8) ++ s).length = k + s.length := by simp
  unfold Lx.scan
  rw [if_neg (by omega), if_neg (by omega), scanF_blanks, scanF_fuel (f := (List.replicate k (32 : UInt8) ++ s).length + 1) (g := s.length + 1) _ _ (by omega) (by omega)]
  exact scanF_shift k _ s 0
theorem shf_lk (l : List Token) (k : Nat) : Lk l (l.map (shf k)) := by
  unfold Lk
  rw [List.map_map]
  rfl
def PS (k : Nat) (p q : Tariff × Int × Int) : Prop := p.1 = q.1 ∧ p.2.2 = q.2.2 ∧ (p.2.2 ≠ 0 → q.2.1 = p.2.1 + (k : Int))
theorem Parse_l {s z : Rt.Bs} {k : Nat} (hs : s.length ≤ 1000000) (hz : z.length = s.length + k) (hz6 : z.length ≤ 1000000) (h1 : (Lx.scan z).1 = (Lx.scan s).1.map (shf k)) (h2 : (Lx.scan z).2.2 = (Lx.scan s).2.2) (h3 : (Lx.scan s).2.2 ≠ 0 → (Lx.scan z).2.1 = (Lx.scan s).2.1 + k) :
    T2 (PS k) (fun n => tariff_Parse n s) (fun n => tariff_Parse n z) := by
  unfold tariff_Parse
  refine T2.l (Scan_ev hs) (T2.r (Scan_ev hz6) ?_)
  have hl : (Lx.scan s).1.length ≤ 1000000 := Nat.le_trans (scan_len s) hs
  generalize Lx.scan s = sc at hl h1 h2 h3 ⊢
  generalize Lx.scan z = zc at h1 h2 h3 ⊢
  obtain ⟨l, at_, e⟩ := sc
  obtain ⟨l', at', e'⟩ := zc
  dsimp only at hl h1 h2 h3 ⊢
  obtain rfl : l' = l.map (shf k) := h1
  obtain rfl : e' = e := h2
  have hlk := shf_lk l k
  have hll : (l.map (shf k)).length = l.length := List.length_map _
  refine T2.bif (fun he => T2.pure ⟨rfl, rfl, fun h => by dsimp only at h ⊢; rw [h3 h]; omega⟩) (fun _ => ?_)
  refine T2.bind (need_l hlk hl (a := 0) (e := 0) (by omega) _ (by simp)) ?_
  rintro _ _ ⟨a1, e1, rfl, rfl, _, g1⟩
  refine T2.bind (one_l hlk hl g1 (by decide)) ?_
  rintro ⟨_, t⟩ ⟨_, u⟩ ⟨⟨a2, e2, rfl, rfl, _, g2⟩, tx, _⟩
  refine T2.bind (need_l hlk hl g2 _ (by simp)) ?_
  rintro _ _ ⟨a3, e3, rfl, rfl, _, g3⟩
  refine T2.bind (expr_lk hlk hl g3) ?_
  rintro ⟨_, x⟩ ⟨_, _⟩ ⟨a4, e4, rfl, rfl, _, g4, rfl, fx⟩
  refine T2.l (Ev.all fun n => is_n n _ g4) (T2.r (Ev.all fun n => is_n n _ (by omega)) ?_)
  dsimp only at fx tx ⊢
  rw [← hlk.is a4 e4 [59], tx]
  refine T2.bind (P := Eq) (T2.bif (fun _ => ?_) (fun _ => T2.pure rfl)) ?_
  · obtain ⟨r, er, _⟩ := sized_x fx 10 100 (by decide) (by decide)
    exact T2.l er (T2.r er (T2.pure rfl))
  rintro ⟨v7, w⟩ _ rfl
  dsimp only
  refine T2.bind (P := fun p q : List Token × Int × Int => I2 l (l.map (shf k)) a4 ⟨p.1, p.2.1, p.2.2⟩ ⟨q.1, q.2.1, q.2.2⟩) (T2.bif (fun _ => ?_) (fun _ => T2.pure ⟨a4, e4, rfl, rfl, Nat.le_refl _, g4⟩)) ?_
  · exact T2.l (Ev.all fun n => fail_n n l a4 e4 6) (T2.r (Ev.all fun n => fail_n n _ a4 e4 6) (T2.pure ⟨a4, _, rfl, rfl, Nat.le_refl _, g4⟩))
  rintro ⟨f1, f2, f3⟩ ⟨k1, k2, k3⟩ ⟨a5, e5, hq, hq', _, g5⟩
  obtain ⟨rfl, rfl, rfl⟩ : f1 = l ∧ f2 = (a5 : Int) ∧ f3 = e5 := by simpa using hq
  obtain ⟨rfl, rfl, rfl⟩ : k1 = f1.map (shf k) ∧ k2 = (a5 : Int) ∧ k3 = f3 := by simpa using hq'
  dsimp only
  refine T2.bind (need_l hlk hl g5 _ (by simp)) ?_
  rintro _ _ ⟨a6, e6, rfl, rfl, _, g6⟩
  refine T2.bind (take_l hlk _ hl g6) ?_
  rintro ⟨_, b⟩ ⟨_, _⟩ ⟨⟨a7, e7, rfl, rfl, _, g7⟩, rfl⟩
  refine T2.bind (P := fun p q : Int × List Token × Int × Int => I2 f1 (f1.map (shf k)) a7 ⟨p.2.1, p.2.2.1, p.2.2.2⟩ ⟨q.2.1, q.2.2.1, q.2.2.2⟩ ∧ p.1 = q.1) (T2.bif (fun _ => ?_) (fun _ => T2.pure ⟨⟨a7, e7, rfl, rfl, Nat.le_refl _, g7⟩, rfl⟩)) ?_
  · refine T2.bind (need_l hlk hl g7 _ (by simp)) ?_
    rintro _ _ ⟨a8, e8, rfl, rfl, g71, g8⟩
    refine T2.bind (one_l hlk hl g8 (by decide)) ?_
    rintro ⟨_, t2⟩ ⟨_, u2⟩ ⟨⟨a9, e9, rfl, rfl, g81, g9⟩, _, tn⟩
    refine T2.bind (need_l hlk hl g9 _ (by simp)) ?_
    rintro _ _ ⟨a10, e10, rfl, rfl, g91, g10⟩
    exact T2.pure ⟨⟨a10, e10, rfl, rfl, by omega, g10⟩, tn⟩
  rintro ⟨f5, f6, f7, f8⟩ ⟨k5, k6, k7, k8⟩ ⟨⟨a8, e8, hq8, hq8', _, g8⟩, hn⟩
  obtain ⟨rfl, rfl, rfl⟩ : f6 = f1 ∧ f7 = (a8 : Int) ∧ f8 = e8 := by simpa using hq8
  obtain ⟨rfl, rfl, rfl⟩ : k6 = f6.map (shf k) ∧ k7 = (a8 : Int) ∧ k8 = f8 := by simpa using hq8'
  obtain rfl : f5 = k5 := hn
  dsimp only
  refine T2.bind (need_l hlk hl g8 _ (by simp)) ?_
  rintro _ _ ⟨a9, e9, rfl, rfl, _, g9⟩
  dsimp only
  rw [hll]
  refine T2.bind (P := fun p q : List Token × Int × Int => p.2.1 = (a9 : Int) ∧ q.2.1 = (a9 : Int) ∧ p.2.2 = q.2.2) (T2.bif (fun _ => ?_) (fun _ => T2.pure ⟨rfl, rfl, rfl⟩)) ?_
  · exact T2.l (Ev.all fun n => fail_n n f6 a9 e9 12) (T2.r (Ev.all fun n => fail_n n _ a9 e9 12) (T2.pure ⟨rfl, rfl, rfl⟩))
  rintro ⟨i1, i2, i3⟩ ⟨j1, j2, j3⟩ ⟨rfl, rfl, rfl⟩
  dsimp only
  refine T2.bif (fun _ => T2.pure ⟨rfl, rfl, fun h => absurd rfl h⟩) (fun _ => ?_)
  refine T2.bif (fun h => ?_) (fun _ => T2.pure ⟨rfl, rfl, fun _ => by dsimp only; rw [hz]; omega⟩)
  have hlt := of_decide_eq_true h
  have hb : a9 < f6.length := by omega
  refine T2.l (Ev.all fun _ => ix_some (l := f6) (i := a9) hb) (T2.r (b := shf k f6[a9]) (Ev.all fun _ => by rw [ix_nat, List.getElem?_map, List.getElem?_eq_getElem hb]; rfl) (T2.pure ⟨rfl, rfl, fun _ => rfl⟩))
end Go.Proofs.YtpihabofmnnbbaaDoor.Pr

/-
  WHAT STANDS INSIDE of the text of a tariff; the text with parentheses, and with comments between its tokens.
-/
namespace Go.Proofs.YtpihabofmnnbbaaDoor.Pr
open Go Rt M Ta Tp

/-! all words -/
theorem wdp_all {P : Token → Prop} (h40 : P (wS 40)) (h41 : P (wS 41)) {o : Int} {l : List M.Expr} {w : List Token} (h : ∀ t, t ∈ w → P t) : ∀ t, t ∈ wdp o l w → P t := by
  unfold wdp
  cases (!l.isEmpty && o != 9) && o != 10 with
  | false => exact h
  | true =>
    intro t ht
    rw [cond_true] at ht
    simp only [List.mem_cons, List.mem_append, List.not_mem_nil, or_false] at ht
    rcases ht with rfl | ht | rfl
    · exact h40
    · exact h t ht
    · exact h41
theorem words_all {P : Token → Prop} (hn : ∀ s, Lx.name s = true → P (wN s)) (hk : ∀ n : Int, 0 ≤ n → n ≤ 1099511627776 → P (wK n)) (hg : ∀ c, Lx.isSign c = true → c ≠ 59 → P (wS c)) {x : M.Expr} (hs : Shx x) : (∀ t, t ∈ (wa x).1 → P t) ∧ (∀ t, t ∈ (wa x).2 → P t) := by
  have h40 : P (wS 40) := hg 40 (by decide) (by decide)
  have h41 : P (wS 41) := hg 41 (by decide) (by decide)
  have h44 : P (wS 44) := hg 44 (by decide) (by decide)
  induction hs with
  | @mk o n s l h0 h16 hl hno _ ih =>
    have two : (∀ t, t ∈ (wa ⟨o, n, s, l⟩).1 → P t) → (∀ t, t ∈ (wa ⟨o, n, s, l⟩).1 → P t) ∧ (∀ t, t ∈ (wa ⟨o, n, s, l⟩).2 → P t) := fun h => ⟨h, wdp_all h40 h41 h⟩
    have hcs : o = 0 ∨ o = 1 ∨ o = 2 ∨ o = 3 ∨ o = 4 ∨ (o = 9 ∨ o = 10) ∨ o = 11 ∨ o = 14 ∨ (o = 5 ∨ o = 6 ∨ o = 7 ∨ o = 8 ∨ o = 12 ∨ o = 13 ∨ o = 15 ∨ o = 16) := by omega
    rcases hcs with rfl | rfl | rfl | rfl | rfl | ho | rfl | rfl | ho
    · obtain rfl : l = [] := List.length_eq_zero_iff.1 (shx_len hl rfl)
      unfold nodeok at hno
      rw [if_pos rfl] at hno
      refine two fun t ht => ?_
      obtain rfl := List.mem_singleton.1 ht
      exact hk n hno.1.1 hno.1.2
    · obtain rfl : l = [] := List.length_eq_zero_iff.1 (shx_len hl rfl)
      unfold nodeok at hno
      rw [if_neg (by decide), if_pos (by decide)] at hno
      refine two fun t ht => ?_
      have ht : t ∈ [wN [108, 105, 102, 116, 115], wS 40, wN s, wS 41] := ht
      simp only [List.mem_cons, List.not_mem_nil, or_false] at ht
      rcases ht with rfl | rfl | rfl | rfl
      · exact hn _ (by decide)
      · exact h40
      · exact hn _ hno.2
      · exact h41
    · obtain rfl : l = [] := List.length_eq_zero_iff.1 (shx_len hl rfl)
      refine two fun t ht => ?_
      obtain rfl := List.mem_singleton.1 ht
      exact hn _ (by decide)
    · obtain rfl : l = [] := List.length_eq_zero_iff.1 (shx_len hl rfl)
      refine two fun t ht => ?_
      obtain rfl := List.mem_singleton.1 ht
      exact hn _ (by decide)
    · obtain rfl : l = [] := List.length_eq_zero_iff.1 (shx_len hl rfl)
      unfold nodeok at hno
      rw [if_neg (by decide), if_pos (by decide)] at hno
      refine two fun t ht => ?_
      have ht : t ∈ [wN [119, 101, 105, 103, 104, 116], wS 40, wN s, wS 41] := ht
      simp only [List.mem_cons, List.not_mem_nil, or_false] at ht
      rcases ht with rfl | rfl | rfl | rfl
      · exact hn _ (by decide)
      · exact h40
      · exact hn _ hno.2
      · exact h41
    · have hl2 : l.length = 2 := shx_len hl (by rcases ho with rfl | rfl <;> rfl)
      obtain ⟨a, b, rfl⟩ : ∃ a b, l = [a, b] := by
        match l, hl2 with
        | [a, b], _ => exact ⟨a, b, rfl⟩
      have ga := (ih a (by simp)).1
      have gb := (ih b (by simp)).1
      refine two fun t ht => ?_
      have key : ∀ k, Lx.name k = true → t ∈ wN k :: wS 40 :: ((wa a).1 ++ wS 44 :: ((wa b).1 ++ [wS 41])) → P t := by
        intro k hk2 ht
        simp only [List.mem_cons, List.mem_append, List.not_mem_nil, or_false] at ht
        rcases ht with rfl | rfl | ht | rfl | ht | rfl
        · exact hn _ hk2
        · exact h40
        · exact ga t ht
        · exact h44
        · exact gb t ht
        · exact h41
      rcases ho with rfl | rfl
      · exact key [109, 105, 110] (by decide) ht
      · exact key [109, 97, 120] (by decide) ht
    · have hl3 : l.length = 3 := shx_len hl rfl
      obtain ⟨a, b, c, rfl⟩ : ∃ a b c, l = [a, b, c] := by
        match l, hl3 with
        | [a, b, c], _ => exact ⟨a, b, c, rfl⟩
      have ga := (ih a (by simp)).2
      have gb := (ih b (by simp)).2
      have gc := (ih c (by simp)).2
      refine two fun t ht => ?_
      have ht : t ∈ wN [105, 102] :: ((wa a).2 ++ wN [116, 104, 101, 110] :: ((wa b).2 ++ wN [101, 108, 115, 101] :: (wa c).2)) := ht
      simp only [List.mem_cons, List.mem_append] at ht
      rcases ht with rfl | ht | rfl | ht | rfl | ht
      · exact hn _ (by decide)
      · exact ga t ht
      · exact hn _ (by decide)
      · exact gb t ht
      · exact hn _ (by decide)
      · exact gc t ht
    · have hl1 : l.length = 1 := shx_len hl rfl
      obtain ⟨a, rfl⟩ : ∃ a, l = [a] := by
        match l, hl1 with
        | [a], _ => exact ⟨a, rfl⟩
      have ga := (ih a (by simp)).2
      refine two fun t ht => ?_
      rcases List.mem_cons.1 ht with rfl | ht
      · exact hn _ (by decide)
      · exact ga t ht
    · have hl2 : l.length = 2 := shx_len hl (by unfold argsN; rw [if_neg (by omega), if_neg (by omega), if_neg (by omega)]; rfl)
      obtain ⟨a, b, rfl⟩ : ∃ a b, l = [a, b] := by
        match l, hl2 with
        | [a, b], _ => exact ⟨a, b, rfl⟩
      have ga := (ih a (by simp)).2
      have gb := (ih b (by simp)).2
      have ew : (wa ⟨o, n, s, [a, b]⟩).1 = (wa a).2 ++ opw o :: (wa b).2 := by
        show (if o = 9 ∨ o = 10 then _ else (wa a).2 ++ opw o :: (wa b).2) = _
        rw [if_neg (by omega)]
      refine two fun t ht => ?_
      rw [ew] at ht
      rcases List.mem_append.1 ht with ht | ht
      · exact ga t ht
      rcases List.mem_cons.1 ht with rfl | ht
      · rcases ho with rfl | rfl | rfl | rfl | rfl | rfl | rfl | rfl
        · exact hg 43 (by decide) (by decide)
        · exact hg 45 (by decide) (by decide)
        · exact hg 42 (by decide) (by decide)
        · exact hg 47 (by decide) (by decide)
        · exact hg 60 (by decide) (by decide)
        · exact hg 61 (by decide) (by decide)
        · exact hn [97, 110, 100] (by decide)
        · exact hn [111, 114] (by decide)
      · exact gb t ht
theorem span_mem {p : UInt8 → Bool} : ∀ {s : Rt.Bs}, Lx.spanN p s = s.length → ∀ c, c ∈ s → p c = true
  | [], _, c, hc => by cases hc
  | d :: s, h, c, hc => by
    have hle := Lx.spanN_le p s
    rw [Lx.spanN] at h
    cases hp : p d with
    | false => rw [hp] at h; simp at h
    | true =>
      rw [hp, cond_true] at h
      rcases List.mem_cons.1 hc with rfl | hc
      · exact hp
      · exact span_mem (by simpa using h) c hc
theorem name_mem {s : Rt.Bs} (h : Lx.name s = true) {c : UInt8} (hc : c ∈ s) : Lx.isInner c = true := by
  unfold Lx.name at h
  simp only [Bool.and_eq_true, beq_iff_eq] at h
  exact span_mem h.2 c hc
/-- neither a semicolon nor a quoted string -/
def Pl (t : Token) : Prop := t.Kind ≠ 2 ∧ (59 : UInt8) ∉ t.Text
theorem fee_pl {x : M.Expr} (hs : Shx x) : ∀ t, t ∈ (wa x).1 → Pl t := by
  refine (words_all (P := Pl) ?_ ?_ ?_ hs).1
  · intro s h
    refine ⟨(by decide : (0 : Int) ≠ 2), fun hc => ?_⟩
    have := name_mem h hc
    exact absurd this (by decide)
  · intro n h0 h1
    refine ⟨(by decide : (1 : Int) ≠ 2), fun hc => ?_⟩
    have hc : (59 : UInt8) ∈ Lib.itoa n := hc
    rw [itoa_nat h0] at hc
    exact absurd ((dec_of n.toNat).2.1 _ hc) (by decide)
  · intro c _ h
    refine ⟨(by decide : (3 : Int) ≠ 2), fun hc => ?_⟩
    exact h (List.mem_singleton.1 hc).symm
theorem sp_mem {c : UInt8} : ∀ {ws : List Token}, c ∈ sp ws → c = 32 ∨ ∃ t, t ∈ ws ∧ c ∈ t.Text
  | [], h => by cases h
  | t :: ws, h => by
    rcases List.mem_cons.1 h with h | h
    · exact .inl h
    rcases List.mem_append.1 h with h | h
    · exact .inr ⟨t, by simp, h⟩
    · rcases sp_mem h with h | ⟨u, h1, h2⟩
      · exact .inl h
      · exact .inr ⟨u, by simp [h1], h2⟩
theorem fee_semi {x : M.Expr} (hs : Shx x) : (59 : UInt8) ∉ (32 :: (ta x).1) := by
  rw [(words_ok hs).1.1]
  intro h
  rcases sp_mem h with h | ⟨t, h1, h2⟩
  · exact absurd h (by decide)
  · exact (fee_pl hs t h1).2 h2

/-! inside -/
def feeq : Rt.Bs := [102, 101, 101, 32, 61]
theorem in_L2 {s : Rt.Bs} (hs : s.length ≤ 1000000) (n : Nat) (K : Int → Option (Rt.Bs × Rt.Bs × Rt.Bs)) : ∀ (m q : Rt.Bs) (i f : Nat), s.drop i = m ++ 59 :: q → (59 : UInt8) ∉ m → i ≤ s.length → m.length < f → law35_inside_L2 n s K f (i : Int) = K ((i + m.length : Nat) : Int)
  | [], q, i, f, hd, _, hi, hf => by
    obtain ⟨f, rfl⟩ := left hf
    have h1 := Lx.len_drop hd
    rw [law35_inside_L2_s, decide_eq_true (by omega), cond_true, Lx.sidx_drop hd]
    rfl
  | c :: m, q, i, f, hd, hm, hi, hf => by
    obtain ⟨f, rfl, hf2⟩ := pred (by simpa using hf)
    have h1 := Lx.len_drop hd
    have hc : c ≠ 59 := fun e => hm (by rw [e]; simp)
    have hc2 : (((c.toNat : Int)) != 59) = true := by
      have : c.toNat ≠ 59 := fun e => hc (UInt8.toNat_inj.1 e)
      rw [bne_iff_ne]; omega
    rw [law35_inside_L2_s, decide_eq_true (by omega), cond_true, Lx.sidx_drop hd, Option.bind_some, hc2, Option.bind_some, cond_true, inc64 (by omega), in_L2 hs n K m q (i + 1) f (Lx.drop_succ hd) (fun h => hm (by simp [h])) (by omega) hf2]
    rw [List.length_cons, show i + 1 + m.length = i + (m.length + 1) by omega]
theorem in_L1 {s p r : Rt.Bs} (hs : s.length ≤ 1000000) (he : s = p ++ (feeq ++ r)) (hp : (61 : UInt8) ∉ p) (hr : r ≠ []) (n : Nat) (K : Int → Option (Rt.Bs × Rt.Bs × Rt.Bs)) : ∀ (d i f : Nat), i + d = p.length → d < f → law35_inside_L1 n s K f (i : Int) = K (p.length : Int)
  | d, i, f, hd, hf => by
    have hrl : 0 < r.length := List.length_pos_iff.2 hr
    have hlen : s.length = p.length + (5 + r.length) := by rw [he]; simp [feeq]; omega
    obtain ⟨f, rfl⟩ := left hf
    rw [law35_inside_L1_s, show iadd .i64 (i : Int) 5 = ((i + 5 : Nat) : Int) from Lx.iadd_nat i 5 (by omega), decide_eq_true (by omega), cond_true, Lx.ssl_nat i (i + 5) (by omega) (by omega), Option.bind_some]
    cases d with
    | zero =>
      obtain rfl : i = p.length := by omega
      have e : (s.take (p.length + 5)).drop p.length = feeq := by
        rw [← List.take_drop, he, List.drop_left]; rfl
      rw [e]; rfl
    | succ d =>
      have hne : ((s.take (i + 5)).drop i == [102, 101, 101, 32, 61]) = false := by
        rw [beq_eq_false_iff_ne]
        intro e
        have e2 := congrArg (fun q => q[4]?) e
        simp only [List.getElem?_drop, List.getElem?_take] at e2
        rw [if_pos (by omega)] at e2
        have e3 : s[i + 4]? = some 61 := e2
        have e4 : s = (p ++ [102, 101, 101, 32]) ++ (61 :: r) := by rw [he]; simp [feeq]
        rw [e4, List.getElem?_append_left (by simp; omega)] at e3
        have := List.mem_of_getElem? e3
        rcases List.mem_append.1 this with h | h
        · exact hp h
        · exact absurd h (by decide)
      rw [hne]
      show law35_inside_L1 n s K f (iadd .i64 (i : Int) 1) = _
      rw [inc64 (by omega)]
      exact in_L1 hs he hp hr n K d (i + 1) f (by omega) (by omega)
theorem inside_ev {p m q : Rt.Bs} (hp : (61 : UInt8) ∉ p) (hm : (59 : UInt8) ∉ m) (hs : (p ++ (feeq ++ (m ++ 59 :: q))).length ≤ 1000000) : Ev (fun n => law35_inside n (p ++ (feeq ++ (m ++ 59 :: q)))) (p ++ feeq, m, 59 :: q) := by
  refine ⟨p.length + m.length + 1, fun n hn => ?_⟩
  unfold law35_inside
  have hlen : (p ++ (feeq ++ (m ++ 59 :: q))).length = p.length + (5 + (m.length + (q.length + 1))) := by simp [feeq]; omega
  generalize hS : p ++ (feeq ++ (m ++ 59 :: q)) = S at hs hlen ⊢
  have h1 := in_L1 hs hS.symm hp (by simp) n (fun fromx2 => law35_inside_L2 n S (fun to2 => (ssl S 0 (imin (iadd .i64 fromx2 5) (S.length : Int))).bind fun t1 => (ssl S (imin (iadd .i64 fromx2 5) (S.length : Int)) to2).bind fun t2 => (ssl S to2 S.length).bind fun t3 => some (t1, t2, t3)) n (imin (iadd .i64 fromx2 5) (S.length : Int))) p.length 0 n (by omega) (by omega)
  refine (show _ = _ from h1).trans ?_
  have e5 : iadd .i64 (p.length : Int) 5 = ((p.length + 5 : Nat) : Int) := Lx.iadd_nat _ 5 (by omega)
  have em : imin ((p.length + 5 : Nat) : Int) (S.length : Int) = ((p.length + 5 : Nat) : Int) := by
    unfold imin; rw [if_neg (by omega)]
  rw [e5, em]
  have hd : S.drop (p.length + 5) = m ++ 59 :: q := by
    rw [← hS, ← List.drop_drop, List.drop_left]; rfl
  rw [in_L2 hs n _ m q (p.length + 5) n hd hm (by omega) (by omega)]
  rw [Lx.ssl_to _ (by omega), Option.bind_some, Lx.ssl_nat _ _ (by omega) (by omega), Option.bind_some, Lx.ssl_from _ (by omega), Option.bind_some]
  have t1 : S.take (p.length + 5) = p ++ feeq := by
    rw [← hS, ← List.append_assoc]
    exact List.take_left' (by simp [feeq])
  have t2 : (S.take (p.length + 5 + m.length)).drop (p.length + 5) = m := by
    rw [← List.take_drop, hd, List.take_left]
  have t3 : S.drop (p.length + 5 + m.length) = 59 :: q := by
    rw [← List.drop_drop, hd, List.drop_left]
  rw [t1, t2, t3]
end Go.Proofs.YtpihabofmnnbbaaDoor.Pr

/-
  THE TEXT of a tariff with parentheses about its fee, and with comments between its tokens, has the same words.
-/
namespace Go.Proofs.YtpihabofmnnbbaaDoor.Pr
open Go Rt M Ta Tp

theorem laid_sp : ∀ {ws : List Token} {r : Rt.Bs} {vs : List Token}, (∀ t, t ∈ ws → Good t) → Stop r → Laid r vs → Laid (sp ws ++ r) (ws ++ vs)
  | [], _, _, _, _, h => h
  | t :: ws, r, vs, hg, hr, h => by
    have hr2 : Stop (sp ws ++ r) := by
      cases ws with
      | nil => exact hr
      | cons u ws => exact .inr (show Lx.isInner 32 = false by decide)
    have := Laid.cons (g := [32]) gap_one (hg t (by simp)) hr2 (laid_sp (fun u hu => hg u (by simp [hu])) hr h)
    have e : sp (t :: ws) ++ r = [32] ++ (t.Text ++ (sp ws ++ r)) := by
      show 32 :: (t.Text ++ sp ws) ++ r = _
      simp
    rw [e]; exact this
theorem stop_of {c : UInt8} {r : Rt.Bs} (h : Lx.isInner c = false) : Stop (c :: r) := .inr h
/-! what ptx is made of -/
def pre (t : Tariff) : Rt.Bs := [116, 97, 114, 105, 102, 102, 32] ++ t.Name ++ [32, 123, 32]
def post (t : Tariff) : Rt.Bs := sp (capw t.Cap ++ [wS 125])
theorem ptx_parts {t : Tariff} (hw : Wrt t) : ptx t = pre t ++ (feeq ++ ((32 :: (ta t.Fee).1 ++ [32]) ++ 59 :: post t)) := by
  have h1 := (ptx_words hw).1
  have h2 := (words_ok hw.2.1.2).1.1
  have e : sp (pw t) = 32 :: ([116, 97, 114, 105, 102, 102] ++ 32 :: (t.Name ++ 32 :: 123 :: 32 :: ([102, 101, 101] ++ 32 :: 61 :: sp ((wa t.Fee).1 ++ wS 59 :: (capw t.Cap ++ [wS 125]))))) := rfl
  have e2 : sp (wS 59 :: (capw t.Cap ++ [wS 125])) = 32 :: 59 :: post t := rfl
  rw [e, sp_app, e2, ← h2] at h1
  rw [(List.cons.inj h1).2]
  unfold pre feeq
  simp
theorem pre_eq {t : Tariff} (hw : Wrt t) : (61 : UInt8) ∉ pre t := by
  unfold pre
  intro h
  rcases List.mem_append.1 h with h | h
  · rcases List.mem_append.1 h with h | h
    · exact absurd h (by decide)
    · exact absurd (name_mem hw.1 h) (by decide)
  · exact absurd h (by decide)
theorem fee_no {t : Tariff} (hw : Wrt t) : (59 : UInt8) ∉ (32 :: (ta t.Fee).1 ++ [32]) := by
  intro h
  rcases List.mem_append.1 h with h | h
  · exact fee_semi hw.2.1.2 h
  · exact absurd h (by decide)
/-- the text with parentheses -/
def ptp (t : Tariff) : Rt.Bs := ((((pre t ++ feeq) ++ [40]) ++ (32 :: (ta t.Fee).1 ++ [32])) ++ [41]) ++ 59 :: post t
theorem ptp_laid {t : Tariff} (hw : Wrt t) : Laid (ptp t) (pwx t (wS 40 :: ((wa t.Fee).1 ++ [wS 41]))) := by
  have h2 := (words_ok hw.2.1.2).1.1
  have hg := (words_ok hw.2.1.2).1.2.1
  have gn : Good (wN t.Name) := good_name hw.1
  have gc := capw_good hw.2.2.1 hw.2.2.2
  have l1 : Laid (post t) (capw t.Cap ++ [wS 125]) := sp_laid (fun u hu => by
    rcases List.mem_append.1 hu with hu | hu
    · exact gc u hu
    · obtain rfl := List.mem_singleton.1 hu; exact good125)
  have s1 : Stop (post t) := sp_stop _
  have l2 : Laid (59 :: post t) (wS 59 :: (capw t.Cap ++ [wS 125])) := Laid.cons (g := []) (t := wS 59) gap_nil good59 s1 l1
  have l3 : Laid (32 :: 41 :: 59 :: post t) (wS 41 :: wS 59 :: (capw t.Cap ++ [wS 125])) := Laid.cons (g := [32]) (t := wS 41) gap_one good41 (stop_of (by decide)) l2
  have l4 := laid_sp hg (stop_of (by decide)) l3
  have s4 : Stop (sp (wa t.Fee).1 ++ 32 :: 41 :: 59 :: post t) := by
    rw [← h2]; exact stop_of (by decide)
  have l5 : Laid (40 :: (sp (wa t.Fee).1 ++ 32 :: 41 :: 59 :: post t)) (wS 40 :: ((wa t.Fee).1 ++ wS 41 :: wS 59 :: (capw t.Cap ++ [wS 125]))) := Laid.cons (g := []) (t := wS 40) gap_nil good40 s4 l4
  have l6 := laid_sp (ws := [wN t.Name, wS 123, wN [102, 101, 101], wS 61]) (by
    intro u hu
    simp only [List.mem_cons, List.not_mem_nil, or_false] at hu
    rcases hu with rfl | rfl | rfl | rfl
    · exact gn
    · exact good123
    · exact good_name (by decide)
    · exact good61) (stop_of (by decide)) l5
  have l7 := Laid.cons (g := []) (t := wN [116, 97, 114, 105, 102, 102]) gap_nil (good_name (by decide)) (show Stop (sp [wN t.Name, wS 123, wN [102, 101, 101], wS 61] ++ 40 :: (sp (wa t.Fee).1 ++ 32 :: 41 :: 59 :: post t)) from stop_of (show Lx.isInner 32 = false by decide)) l6
  have e : ptp t = [] ++ ((wN [116, 97, 114, 105, 102, 102]).Text ++ (sp [wN t.Name, wS 123, wN [102, 101, 101], wS 61] ++ 40 :: (sp (wa t.Fee).1 ++ 32 :: 41 :: 59 :: post t))) := by
    rw [← h2]
    show _ = [116, 97, 114, 105, 102, 102] ++ (32 :: (t.Name ++ 32 :: 123 :: 32 :: ([102, 101, 101] ++ [32, 61])) ++ _)
    unfold ptp pre feeq
    simp
  rw [e]
  have e2 : pwx t (wS 40 :: ((wa t.Fee).1 ++ [wS 41])) = wN [116, 97, 114, 105, 102, 102] :: ([wN t.Name, wS 123, wN [102, 101, 101], wS 61] ++ (wS 40 :: ((wa t.Fee).1 ++ wS 41 :: wS 59 :: (capw t.Cap ++ [wS 125])))) := by
    unfold pwx; simp
  rw [e2]; exact l7
/-! comments -/
def spr : List Token → Rt.Bs
  | [] => []
  | t :: ws => 10 :: (t.Text ++ 35 :: 59 :: spr ws)
theorem gap_semi : Gap [35, 59, 10] := by
  intro c r h h2
  simp [Lx.gapN, h, h2, show Lx.isBlank 35 = false by decide]
theorem gap_head : Gap [35, 32, 116, 10] := by
  intro c r h h2
  simp [Lx.gapN, h, h2, show Lx.isBlank 35 = false by decide]
theorem laid_spr : ∀ {ws : List Token}, (∀ t, t ∈ ws → Good t) → Laid (35 :: 59 :: spr ws) ws
  | [], _ => Laid.nil (by decide)
  | t :: ws, h => Laid.cons (g := [35, 59, 10]) gap_semi (h t (by simp)) (stop_of (by decide)) (laid_spr fun u hu => h u (by simp [hu]))
theorem laid_all {t : Token} {ws : List Token} (h : ∀ u, u ∈ t :: ws → Good u) : Laid ([35, 32, 116] ++ spr (t :: ws)) (t :: ws) :=
  Laid.cons (g := [35, 32, 116, 10]) gap_head (h t (by simp)) (stop_of (by decide)) (laid_spr fun u hu => h u (by simp [hu]))
theorem spr_len : ∀ {ws : List Token}, (∀ t, t ∈ ws → Good t) → (spr ws).length ≤ 2 * (sp ws).length
  | [], _ => Nat.le_refl _
  | t :: ws, h => by
    have ih := spr_len (ws := ws) fun u hu => h u (by simp [hu])
    have := List.length_pos_iff.2 (h t (by simp)).2.2.2.1
    simp only [spr, sp, List.length_cons, List.length_append]
    omega
theorem print_one (t : Token) (h : t.Kind ≠ 2) (hl : t.Text.length ≤ 1000000) : Ev (fun n => lexer_Print n [t]) t.Text := by
  refine ⟨2, fun n hn => ?_⟩
  obtain ⟨m, rfl⟩ : ∃ m, n = m + 2 := ⟨n - 2, by omega⟩
  unfold lexer_Print
  show lexer_Print_L1 (m + 2) [t] _ (m + 1 + 1) ((0 : Nat) : Int) [] = _
  have hk : (t.Kind == 2) = false := by simpa using h
  rw [lexer_Print_L1_s, show decide (((0 : Nat) : Int) < (([t] : List Token).length : Int)) = true from rfl, cond_true, show ix [t] ((0 : Nat) : Int) = some t from rfl, Option.bind_some, hk, cond_false, Option.bind_some, app_ok (by simp), Option.bind_some, inc64 (by omega), lexer_Print_L1_s, show decide (((0 + 1 : Nat) : Int) < (([t] : List Token).length : Int)) = false from rfl, cond_false]
  have hj : Lib.join [t.Text] [32] = t.Text := by simp [Lib.join]
  show (strings_Join (m + 2) [t.Text] [32]).bind _ = _
  unfold strings_Join
  rw [hj, if_pos ⟨by simp, by omega⟩]
  rfl
theorem spread_L {l : List Token} (hl : l.length ≤ 1000000) (e1 e2 : Int) (kont : Nat → Rt.Bs → Option Bool) {r : Bool} : ∀ (us : List Token) (i : Nat) (acc : Rt.Bs), l.drop i = us → (∀ t, t ∈ us → t.Kind ≠ 2) → acc.length + (spr us).length ≤ 1000000 →
    Ev (fun n => kont n (acc ++ spr us)) r → ∃ N, ∀ n m, N ≤ n → us.length < m → law35_TariffWraps_L2 n (l, e1, e2) (kont n) m acc (i : Int) = some r
  | [], i, acc, hd, _, _, hk => by
    obtain ⟨N, hk⟩ := hk
    refine ⟨N, fun n m hn hm => ?_⟩
    obtain ⟨m, rfl⟩ := left hm
    rw [law35_TariffWraps_L2_s]
    dsimp only
    rw [more_no hd, cond_false]
    have := hk n hn
    rw [show acc ++ spr [] = acc from List.append_nil _] at this
    exact this
  | t :: us, i, acc, hd, h2, hlen, hk => by
    obtain ⟨h1, h3, h4⟩ := Rt.drop_cons hd
    have e : spr (t :: us) = 10 :: (t.Text ++ 35 :: 59 :: spr us) := rfl
    rw [e] at hlen hk
    simp only [List.length_cons, List.length_append] at hlen
    obtain ⟨N, ih⟩ := spread_L hl e1 e2 kont us (i + 1) (((acc ++ [10]) ++ t.Text) ++ [35, 59]) h3 (fun u hu => h2 u (by simp [hu])) (by simp only [List.length_append, List.length_cons, List.length_nil]; omega) (by
      have : (((acc ++ [10]) ++ t.Text) ++ [35, 59]) ++ spr us = acc ++ 10 :: (t.Text ++ 35 :: 59 :: spr us) := by simp
      rw [this]; exact hk)
    obtain ⟨N1, ep⟩ := print_one t (h2 t (by simp)) (by omega)
    refine ⟨max N N1, fun n m hn hm => ?_⟩
    obtain ⟨m, rfl, hm2⟩ := pred (by simpa using hm)
    have ep : lexer_Print n [t] = some t.Text := ep n (by omega)
    have el : lsl l (i : Int) ((i + 1 : Nat) : Int) = some [t] := by
      rw [lsl_eq (by omega) (by omega), ← List.take_drop, hd]; rfl
    rw [law35_TariffWraps_L2_s]
    dsimp only
    rw [more_yes hd, cond_true, scat_eq (by simp only [List.length_cons, List.length_nil]; omega), Option.bind_some, inc64 (by omega), el, Option.bind_some, ep, Option.bind_some, scat_eq (by simp only [List.length_append, List.length_cons, List.length_nil]; omega), Option.bind_some, scat_eq (by simp only [List.length_append, List.length_cons, List.length_nil]; omega), Option.bind_some]
    exact ih n m (by omega) hm2
end Go.Proofs.YtpihabofmnnbbaaDoor.Pr
