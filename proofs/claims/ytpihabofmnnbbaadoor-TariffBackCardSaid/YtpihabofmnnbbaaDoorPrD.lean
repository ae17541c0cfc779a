/-
  THE WORDS of a printed expression.
-/
import Derived.Test.YtpihabofmnnbbaaDoorPrC
namespace Go.Proofs.YtpihabofmnnbbaaDoor.Pr
open Go Rt M Ta Tp

/-- words, a blank before each -/
def sp : List Token → Rt.Bs
  | [] => []
  | t :: ws => 32 :: (t.Text ++ sp ws)
theorem sp_app : ∀ a b : List Token, sp (a ++ b) = sp a ++ sp b
  | [], _ => rfl
  | t :: a, b => by show 32 :: (t.Text ++ sp (a ++ b)) = 32 :: (t.Text ++ sp a) ++ sp b; rw [sp_app a b]; simp
theorem sp_stop (ws : List Token) : Stop (sp ws) := by
  cases ws with
  | nil => exact .inl rfl
  | cons t ws => exact .inr (show Lx.isInner 32 = false by decide)
theorem sp_laid : ∀ {ws : List Token}, (∀ t, t ∈ ws → Good t) → Laid (sp ws) ws
  | [], _ => Laid.nil rfl
  | t :: ws, h => Laid.cons (g := [32]) gap_one (h t (by simp)) (sp_stop ws) (sp_laid fun u hu => h u (by simp [hu]))

def opw (o : Int) : Token := ⟨if o = 15 ∨ o = 16 then 0 else 3, sgn o, 0, 0⟩
def wdo (o n : Int) (s : Rt.Bs) : List (List Token × List Token) → List Token
  | [] => if o = 0 then [wK n] else if o = 2 then [wN [112, 101, 114, 115, 111, 110, 115]] else if o = 3 then [wN [102, 108, 97, 116, 115]] else [wN (if o = 1 then [108, 105, 102, 116, 115] else [119, 101, 105, 103, 104, 116]), wS 40, wN s, wS 41]
  | [a] => wN [110, 111, 116] :: a.2
  | [a, b] => if o = 9 ∨ o = 10 then wN (if o = 9 then [109, 105, 110] else [109, 97, 120]) :: wS 40 :: (a.1 ++ wS 44 :: (b.1 ++ [wS 41])) else a.2 ++ opw o :: b.2
  | a :: b :: c :: _ => wN [105, 102] :: (a.2 ++ wN [116, 104, 101, 110] :: (b.2 ++ wN [101, 108, 115, 101] :: c.2))
def wdp (o : Int) (l : List M.Expr) (w : List Token) : List Token := bif (!l.isEmpty && o != 9) && o != 10 then wS 40 :: (w ++ [wS 41]) else w
mutual
/-- the words of an expression, and those of an Arg -/
def wa : M.Expr → List Token × List Token
  | ⟨o, n, s, l⟩ => (wdo o n s (was l), wdp o l (wdo o n s (was l)))
def was : List M.Expr → List (List Token × List Token)
  | [] => []
  | x :: l => wa x :: was l
 end
def W1 (x : M.Expr) : Prop := 32 :: (ta x).1 = sp (wa x).1 ∧ (∀ t, t ∈ (wa x).1 → Good t) ∧ (ta x).1.length ≤ 31 * cnt x
def W2 (x : M.Expr) : Prop := 32 :: (ta x).2 = sp (wa x).2 ∧ (∀ t, t ∈ (wa x).2 → Good t) ∧ (ta x).2.length ≤ 31 * cnt x
theorem good40 : Good (wS 40) := good_sign (by decide)
theorem good41 : Good (wS 41) := good_sign (by decide)
theorem good44 : Good (wS 44) := good_sign (by decide)
theorem word2 {o n : Int} {s : Rt.Bs} {l : List M.Expr} (h1 : 32 :: (ta ⟨o, n, s, l⟩).1 = sp (wa ⟨o, n, s, l⟩).1) (h2 : ∀ t, t ∈ (wa ⟨o, n, s, l⟩).1 → Good t) (h3 : (ta ⟨o, n, s, l⟩).1.length ≤ 31 * cnt ⟨o, n, s, l⟩) (h4 : l ≠ [] → (ta ⟨o, n, s, l⟩).1.length + 4 ≤ 31 * cnt ⟨o, n, s, l⟩) : W1 ⟨o, n, s, l⟩ ∧ W2 ⟨o, n, s, l⟩ := by
  refine ⟨⟨h1, h2, h3⟩, ?_⟩
  have e : (ta ⟨o, n, s, l⟩).2 = ato o l (ta ⟨o, n, s, l⟩).1 := rfl
  have e2 : (wa ⟨o, n, s, l⟩).2 = wdp o l (wa ⟨o, n, s, l⟩).1 := rfl
  unfold W2
  rw [e, e2]; unfold ato wdp
  cases hb : (!l.isEmpty && o != 9) && o != 10 with
  | true =>
    have hl : l ≠ [] := by
      intro h0
      rw [h0] at hb; cases hb
    have := h4 hl
    refine ⟨?_, ?_, ?_⟩
    · rw [cond_true, cond_true]
      show _ = 32 :: 40 :: sp (_ ++ [wS 41])
      rw [sp_app, ← h1]
      show _ = 32 :: 40 :: ((32 :: (ta ⟨o, n, s, l⟩).1) ++ [32, 41])
      simp
    · intro t ht
      rw [cond_true] at ht
      rcases List.mem_cons.1 ht with rfl | ht
      · exact good40
      · rcases List.mem_append.1 ht with ht | ht
        · exact h2 t ht
        · obtain rfl := List.mem_singleton.1 ht
          exact good41
    · simp only [cond_true, List.length_append, List.length_cons, List.length_nil]; omega
  | false => exact ⟨h1, h2, h3⟩
theorem opw_good {o : Int} (ho : o = 5 ∨ o = 6 ∨ o = 7 ∨ o = 8 ∨ o = 12 ∨ o = 13 ∨ o = 15 ∨ o = 16) : Good (opw o) := by
  rcases ho with rfl | rfl | rfl | rfl | rfl | rfl | rfl | rfl
  · exact good_sign (c := 43) (by decide)
  · exact good_sign (c := 45) (by decide)
  · exact good_sign (c := 42) (by decide)
  · exact good_sign (c := 47) (by decide)
  · exact good_sign (c := 60) (by decide)
  · exact good_sign (c := 61) (by decide)
  · exact good_name (s := [97, 110, 100]) (by decide)
  · exact good_name (s := [111, 114]) (by decide)
theorem words_ok {x : M.Expr} (hs : Shx x) : W1 x ∧ W2 x := by
  induction hs with
  | @mk o n s l h0 h16 hl hno _ ih =>
    have hcc : cnt ⟨o, n, s, l⟩ = cnts l + 1 := rfl
    have leaf : l = [] → 32 :: (ta ⟨o, n, s, l⟩).1 = sp (wa ⟨o, n, s, l⟩).1 → (∀ t, t ∈ (wa ⟨o, n, s, l⟩).1 → Good t) → (ta ⟨o, n, s, l⟩).1.length ≤ 31 → W1 ⟨o, n, s, l⟩ ∧ W2 ⟨o, n, s, l⟩ := fun e h1 h2 h3 =>
      word2 h1 h2 (by omega) (fun h => absurd e h)
    have bin : (o = 5 ∨ o = 6 ∨ o = 7 ∨ o = 8 ∨ o = 12 ∨ o = 13 ∨ o = 15 ∨ o = 16) → W1 ⟨o, n, s, l⟩ ∧ W2 ⟨o, n, s, l⟩ := by
      intro ho
      have hl2 : l.length = 2 := shx_len hl (by unfold argsN; rw [if_neg (by omega), if_neg (by omega), if_neg (by omega)]; rfl)
      obtain ⟨a, b, rfl⟩ : ∃ a b, l = [a, b] := by
        match l, hl2 with
        | [a, b], _ => exact ⟨a, b, rfl⟩
      have hcab : cnt ⟨o, n, s, [a, b]⟩ = cnt a + (cnt b + 0) + 1 := rfl
      obtain ⟨_, ea, ga, la⟩ := ih a (by simp)
      obtain ⟨_, eb, gb, lb⟩ := ih b (by simp)
      have hsg : (sgn o).length ≤ 3 := by rcases ho with rfl | rfl | rfl | rfl | rfl | rfl | rfl | rfl <;> decide
      have et : (ta ⟨o, n, s, [a, b]⟩).1 = ((((ta a).2 ++ [32]) ++ sgn o) ++ [32]) ++ (ta b).2 := by
        show (if o = 9 then _ else if o = 10 then _ else (((ta a).2 ++ [32]) ++ sgn o) ++ [32] ++ (ta b).2) = _
        rw [if_neg (by omega), if_neg (by omega)]
      have ew : (wa ⟨o, n, s, [a, b]⟩).1 = (wa a).2 ++ opw o :: (wa b).2 := by
        show (if o = 9 ∨ o = 10 then _ else (wa a).2 ++ opw o :: (wa b).2) = _
        rw [if_neg (by omega)]
      refine word2 ?_ ?_ ?_ (fun _ => ?_)
      · rw [et, ew, sp_app]
        show _ = sp (wa a).2 ++ 32 :: (sgn o ++ sp (wa b).2)
        rw [← ea, ← eb]; simp
      · intro t ht
        rw [ew] at ht
        rcases List.mem_append.1 ht with ht | ht
        · exact ga t ht
        · rcases List.mem_cons.1 ht with rfl | ht
          · exact opw_good ho
          · exact gb t ht
      all_goals rw [et]; simp only [List.length_append, List.length_cons, List.length_nil]; omega
    have mm : ∀ (k : Rt.Bs), Lx.name k = true → k.length = 3 → (o = 9 ∧ k = [109, 105, 110] ∨ o = 10 ∧ k = [109, 97, 120]) → W1 ⟨o, n, s, l⟩ ∧ W2 ⟨o, n, s, l⟩ := by
      intro k hk hk3 ho
      have hl2 : l.length = 2 := shx_len hl (by rcases ho with ⟨rfl, _⟩ | ⟨rfl, _⟩ <;> rfl)
      obtain ⟨a, b, rfl⟩ : ∃ a b, l = [a, b] := by
        match l, hl2 with
        | [a, b], _ => exact ⟨a, b, rfl⟩
      have hcab : cnt ⟨o, n, s, [a, b]⟩ = cnt a + (cnt b + 0) + 1 := rfl
      obtain ⟨⟨ea, ga, la⟩, _⟩ := ih a (by simp)
      obtain ⟨⟨eb, gb, lb⟩, _⟩ := ih b (by simp)
      have et : (ta ⟨o, n, s, [a, b]⟩).1 = (((k ++ [32, 40, 32] ++ (ta a).1) ++ [32, 44, 32]) ++ (ta b).1) ++ [32, 41] := by rcases ho with ⟨rfl, rfl⟩ | ⟨rfl, rfl⟩ <;> rfl
      have ew : (wa ⟨o, n, s, [a, b]⟩).1 = wN k :: wS 40 :: ((wa a).1 ++ wS 44 :: ((wa b).1 ++ [wS 41])) := by rcases ho with ⟨rfl, rfl⟩ | ⟨rfl, rfl⟩ <;> rfl
      refine word2 ?_ ?_ ?_ (fun _ => ?_)
      · rw [et, ew]
        show _ = 32 :: (k ++ 32 :: 40 :: sp ((wa a).1 ++ wS 44 :: ((wa b).1 ++ [wS 41])))
        rw [sp_app]
        show _ = 32 :: (k ++ 32 :: 40 :: (sp (wa a).1 ++ 32 :: 44 :: sp ((wa b).1 ++ [wS 41])))
        rw [sp_app, ← ea, ← eb]
        show _ = 32 :: (k ++ 32 :: 40 :: (32 :: (ta a).1 ++ 32 :: 44 :: (32 :: (ta b).1 ++ [32, 41])))
        simp
      · intro t ht
        rw [ew] at ht
        simp only [List.mem_cons, List.mem_append, List.not_mem_nil, or_false] at ht
        rcases ht with rfl | rfl | ht | rfl | ht | rfl
        · exact good_name hk
        · exact good40
        · exact ga t ht
        · exact good44
        · exact gb t ht
        · exact good41
      all_goals rw [et]; simp only [List.length_append, List.length_cons, List.length_nil]; omega
    have hcs : o = 0 ∨ o = 1 ∨ o = 2 ∨ o = 3 ∨ o = 4 ∨ o = 9 ∨ o = 10 ∨ o = 11 ∨ o = 14 ∨ (o = 5 ∨ o = 6 ∨ o = 7 ∨ o = 8 ∨ o = 12 ∨ o = 13 ∨ o = 15 ∨ o = 16) := by omega
    rcases hcs with rfl | rfl | rfl | rfl | rfl | rfl | rfl | rfl | rfl | ho
    · obtain rfl : l = [] := List.length_eq_zero_iff.1 (shx_len hl rfl)
      unfold nodeok at hno
      rw [if_pos rfl] at hno
      have hi := (num_of (u := n.toNat) (by omega)).2
      have e : Lib.itoa n = Lib.decDigits n.toNat := itoa_nat hno.1.1
      refine leaf rfl ?_ ?_ ?_
      · show 32 :: Lib.itoa n = 32 :: (Lib.itoa n ++ [])
        simp
      · intro t ht
        obtain rfl := List.mem_singleton.1 ht
        exact good_num hno.1.1 hno.1.2
      · show (Lib.itoa n).length ≤ 31
        rw [e]; omega
    · obtain rfl : l = [] := List.length_eq_zero_iff.1 (shx_len hl rfl)
      unfold nodeok at hno
      rw [if_neg (by decide), if_pos (by decide)] at hno
      have hn := name_le hno.2
      refine leaf rfl ?_ ?_ ?_
      · show 32 :: (([108, 105, 102, 116, 115, 32, 40, 32] ++ s) ++ [32, 41]) = 32 :: ([108, 105, 102, 116, 115] ++ 32 :: 40 :: 32 :: (s ++ [32, 41]))
        simp
      · intro t ht
        have ht : t ∈ [wN [108, 105, 102, 116, 115], wS 40, wN s, wS 41] := ht
        simp only [List.mem_cons, List.not_mem_nil, or_false] at ht
        rcases ht with rfl | rfl | rfl | rfl
        · exact good_name (by decide)
        · exact good40
        · exact good_name hno.2
        · exact good41
      · show (([108, 105, 102, 116, 115, 32, 40, 32] ++ s) ++ [32, 41]).length ≤ 31
        simp only [List.length_append, List.length_cons, List.length_nil]; omega
    · obtain rfl : l = [] := List.length_eq_zero_iff.1 (shx_len hl rfl)
      refine leaf rfl rfl ?_ (by show 7 ≤ 31; decide)
      intro t ht
      obtain rfl := List.mem_singleton.1 ht
      exact good_name (by decide)
    · obtain rfl : l = [] := List.length_eq_zero_iff.1 (shx_len hl rfl)
      refine leaf rfl rfl ?_ (by show 5 ≤ 31; decide)
      intro t ht
      obtain rfl := List.mem_singleton.1 ht
      exact good_name (by decide)
    · obtain rfl : l = [] := List.length_eq_zero_iff.1 (shx_len hl rfl)
      unfold nodeok at hno
      rw [if_neg (by decide), if_pos (by decide)] at hno
      have hn := name_le hno.2
      refine leaf rfl ?_ ?_ ?_
      · show 32 :: (([119, 101, 105, 103, 104, 116, 32, 40, 32] ++ s) ++ [32, 41]) = 32 :: ([119, 101, 105, 103, 104, 116] ++ 32 :: 40 :: 32 :: (s ++ [32, 41]))
        simp
      · intro t ht
        have ht : t ∈ [wN [119, 101, 105, 103, 104, 116], wS 40, wN s, wS 41] := ht
        simp only [List.mem_cons, List.not_mem_nil, or_false] at ht
        rcases ht with rfl | rfl | rfl | rfl
        · exact good_name (by decide)
        · exact good40
        · exact good_name hno.2
        · exact good41
      · show (([119, 101, 105, 103, 104, 116, 32, 40, 32] ++ s) ++ [32, 41]).length ≤ 31
        simp only [List.length_append, List.length_cons, List.length_nil]; omega
    · exact mm _ (by decide) rfl (.inl ⟨rfl, rfl⟩)
    · exact mm _ (by decide) rfl (.inr ⟨rfl, rfl⟩)
    · have hl3 : l.length = 3 := shx_len hl rfl
      obtain ⟨a, b, c, rfl⟩ : ∃ a b c, l = [a, b, c] := by
        match l, hl3 with
        | [a, b, c], _ => exact ⟨a, b, c, rfl⟩
      have hcab : cnt ⟨11, n, s, [a, b, c]⟩ = cnt a + (cnt b + (cnt c + 0)) + 1 := rfl
      obtain ⟨_, ea, ga, la⟩ := ih a (by simp)
      obtain ⟨_, eb, gb, lb⟩ := ih b (by simp)
      obtain ⟨_, ec, gc, lc⟩ := ih c (by simp)
      have et : (ta ⟨11, n, s, [a, b, c]⟩).1 = (((([105, 102, 32] ++ (ta a).2) ++ [32, 116, 104, 101, 110, 32]) ++ (ta b).2) ++ [32, 101, 108, 115, 101, 32]) ++ (ta c).2 := rfl
      have ew : (wa ⟨11, n, s, [a, b, c]⟩).1 = wN [105, 102] :: ((wa a).2 ++ wN [116, 104, 101, 110] :: ((wa b).2 ++ wN [101, 108, 115, 101] :: (wa c).2)) := rfl
      refine word2 ?_ ?_ ?_ (fun _ => ?_)
      · rw [et, ew]
        show _ = 32 :: ([105, 102] ++ sp ((wa a).2 ++ wN [116, 104, 101, 110] :: ((wa b).2 ++ wN [101, 108, 115, 101] :: (wa c).2)))
        rw [sp_app]
        show _ = 32 :: ([105, 102] ++ (sp (wa a).2 ++ 32 :: ([116, 104, 101, 110] ++ sp ((wa b).2 ++ wN [101, 108, 115, 101] :: (wa c).2))))
        rw [sp_app]
        show _ = 32 :: ([105, 102] ++ (sp (wa a).2 ++ 32 :: ([116, 104, 101, 110] ++ (sp (wa b).2 ++ 32 :: ([101, 108, 115, 101] ++ sp (wa c).2)))))
        rw [← ea, ← eb, ← ec]
        simp
      · intro t ht
        rw [ew] at ht
        simp only [List.mem_cons, List.mem_append] at ht
        rcases ht with rfl | ht | rfl | ht | rfl | ht
        · exact good_name (by decide)
        · exact ga t ht
        · exact good_name (by decide)
        · exact gb t ht
        · exact good_name (by decide)
        · exact gc t ht
      all_goals rw [et]; simp only [List.length_append, List.length_cons, List.length_nil]; omega
    · have hl1 : l.length = 1 := shx_len hl rfl
      obtain ⟨a, rfl⟩ : ∃ a, l = [a] := by
        match l, hl1 with
        | [a], _ => exact ⟨a, rfl⟩
      have hcab : cnt ⟨14, n, s, [a]⟩ = cnt a + 0 + 1 := rfl
      obtain ⟨_, ea, ga, la⟩ := ih a (by simp)
      have et : (ta ⟨14, n, s, [a]⟩).1 = [110, 111, 116, 32] ++ (ta a).2 := rfl
      have ew : (wa ⟨14, n, s, [a]⟩).1 = wN [110, 111, 116] :: (wa a).2 := rfl
      refine word2 ?_ ?_ ?_ (fun _ => ?_)
      · rw [et, ew]
        show _ = 32 :: ([110, 111, 116] ++ sp (wa a).2)
        rw [← ea]; simp
      · intro t ht
        rw [ew] at ht
        rcases List.mem_cons.1 ht with rfl | ht
        · exact good_name (by decide)
        · exact ga t ht
      all_goals rw [et]; simp only [List.length_append, List.length_cons, List.length_nil]; omega
    · exact bin ho
end Go.Proofs.YtpihabofmnnbbaaDoor.Pr
