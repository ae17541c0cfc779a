/-
  PARSE of what Print returns.
-/
import Derived.Test.YtpihabofmnnbbaaDoorPrF
namespace Go.Proofs.YtpihabofmnnbbaaDoor.Pr
open Go Rt M Ta Tp

/-- the words after the fee -/
def capw (c : Int) : List Token := if c ≠ -1 then [wN [99, 97, 112], wS 61, wK c, wS 59] else []
def pwx (t : Tariff) (w : List Token) : List Token := wN [116, 97, 114, 105, 102, 102] :: wN t.Name :: wS 123 :: wN [102, 101, 101] :: wS 61 :: (w ++ wS 59 :: (capw t.Cap ++ [wS 125]))
def pw (t : Tariff) : List Token := pwx t (wa t.Fee).1
theorem good59 : Good (wS 59) := good_sign (by decide)
theorem good61 : Good (wS 61) := good_sign (by decide)
theorem good123 : Good (wS 123) := good_sign (by decide)
theorem good125 : Good (wS 125) := good_sign (by decide)
theorem capw_good {c : Int} (h : -1 ≤ c) (h2 : c ≤ 1099511627776) : ∀ t, t ∈ capw c → Good t := by
  intro t ht
  unfold capw at ht
  by_cases hc : c = -1
  · rw [if_neg (fun h => h hc)] at ht; cases ht
  · rw [if_pos hc] at ht
    simp only [List.mem_cons, List.not_mem_nil, or_false] at ht
    rcases ht with rfl | rfl | rfl | rfl
    · exact good_name (by decide)
    · exact good61
    · exact good_num (by omega) h2
    · exact good59
theorem pw_good {t : Tariff} (hw : Wrt t) {w : List Token} (hg : ∀ u, u ∈ w → Good u) : ∀ u, u ∈ pwx t w → Good u := by
  intro u hu
  unfold pwx at hu
  simp only [List.mem_cons, List.mem_append, List.not_mem_nil, or_false] at hu
  rcases hu with rfl | rfl | rfl | rfl | rfl | hu | rfl | hu | rfl
  · exact good_name (by decide)
  · exact good_name hw.1
  · exact good123
  · exact good_name (by decide)
  · exact good61
  · exact hg u hu
  · exact good59
  · exact capw_good hw.2.2.1 hw.2.2.2 u hu
  · exact good125
theorem ptx_words {t : Tariff} (hw : Wrt t) : 32 :: ptx t = sp (pw t) ∧ (ptx t).length ≤ 4000 := by
  obtain ⟨⟨h1, _, h3⟩, _⟩ := words_ok hw.2.1.2
  have hn := name_le hw.1
  have hc := hw.2.1.1.2
  constructor
  · have e : sp (pw t) = 32 :: ([116, 97, 114, 105, 102, 102] ++ 32 :: (t.Name ++ 32 :: 123 :: 32 :: ([102, 101, 101] ++ 32 :: 61 :: sp ((wa t.Fee).1 ++ wS 59 :: (capw t.Cap ++ [wS 125]))))) := rfl
    have e2 : sp (wS 59 :: (capw t.Cap ++ [wS 125])) = 32 :: 59 :: sp (capw t.Cap ++ [wS 125]) := rfl
    rw [e, sp_app, e2, sp_app, ← h1]
    have e3 : sp (capw t.Cap) = if t.Cap ≠ -1 then ([32, 99, 97, 112, 32, 61, 32] ++ Lib.itoa t.Cap) ++ [32, 59] else [] := by
      unfold capw
      split
      · show 32 :: ([99, 97, 112] ++ 32 :: 61 :: 32 :: (Lib.itoa t.Cap ++ [32, 59])) = _
        simp
      · rfl
    rw [e3]
    unfold ptx
    show _ = 32 :: ([116, 97, 114, 105, 102, 102] ++ 32 :: (t.Name ++ 32 :: 123 :: 32 :: ([102, 101, 101] ++ 32 :: 61 :: (32 :: (ta t.Fee).1 ++ 32 :: 59 :: (_ ++ [32, 125])))))
    simp
  · have h7 : (if t.Cap ≠ -1 then ([32, 99, 97, 112, 32, 61, 32] ++ Lib.itoa t.Cap) ++ [32, 59] else []).length ≤ 30 := by
      split
      · have := Lib.itoa_length_le t.Cap (by have := hw.2.2.1; omega) (by have := hw.2.2.2; omega)
        simp only [List.length_append, List.length_cons, List.length_nil]; omega
      · simp
    unfold ptx
    simp only [List.length_append, List.length_cons, List.length_nil]
    omega
theorem ptx_scan {t : Tariff} (hw : Wrt t) : ∃ l, Lx.scan (ptx t) = (l, 0, 0) ∧ l.map strip = pw t := by
  obtain ⟨h1, h2⟩ := ptx_words hw
  have hg := pw_good hw (words_ok hw.2.1.2).1.2.1
  have h3 : Laid (ptx t) (pw t) := by
    have e : sp (pw t) = 32 :: ([116, 97, 114, 105, 102, 102] ++ sp (pw t).tail) := rfl
    rw [e] at h1
    rw [(List.cons.inj h1).2]
    exact Laid.cons (g := []) (t := wN [116, 97, 114, 105, 102, 102]) gap_nil (hg _ (by unfold pwx; simp)) (sp_stop _) (sp_laid fun u hu => hg u (List.mem_of_mem_tail hu))
  exact laid_whole h3 h2
theorem parse_words {s : Rt.Bs} {t : Tariff} (hw : Wrt t) (hf : Fit t.Fee) {l : List Token} {w : List Token} (hsc : Lx.scan s = (l, 0, 0)) (hs : s.length ≤ 1000000) (hl : l.map strip = pwx t w)
    (he : ∀ a, Bg l a (w ++ [wS 59]) → Ev (fun n => tariff_reader_expr n (Rd l a 0)) (Rd l (a + w.length) 0, t.Fee)) : Ev (fun n => tariff_Parse n s) (t, 0, 0) := by
  have hlen : l.length = (pwx t w).length := by rw [← hl, List.length_map]
  have hl6 : l.length ≤ 1000000 := by have := scan_len s; rw [hsc] at this; exact Nat.le_trans this hs
  have h0 : Bg l 0 (pwx t w) := ⟨[], by rw [List.drop_zero, hl, List.append_nil]⟩
  obtain ⟨nm, fee, cap⟩ := t
  have k0 : ∀ {c : Rt.Bs} {ws : List Token} {a : Nat}, Bg l a (wN c :: ws) → Ev (fun n => tariff_reader_need n (Rd l a 0) [c]) (Rd l (a + 1) 0) ∧ Bg l (a + 1) ws := fun {c ws a} h =>
    ⟨need_b [wN c] (Bg.cut (u := [wN c]) h).1 hl6 (by intro w hw; obtain rfl := List.mem_singleton.1 hw; exact .inl rfl) (Nat.le_add_left 1 999), (Bg.cut (u := [wN c]) h).2⟩
  unfold pwx at h0
  obtain ⟨e1, h1⟩ := k0 h0
  obtain ⟨tn, e2, g2, _⟩ := one_b h1 hl6
  have h2 : Bg l (0 + 1 + 1) (wS 123 :: wN [102, 101, 101] :: wS 61 :: (w ++ wS 59 :: (capw cap ++ [wS 125]))) := (Bg.cut (u := [wN nm]) h1).2
  have e3 := need_b [wS 123, wN [102, 101, 101], wS 61] (Bg.cut (u := [wS 123, wN [102, 101, 101], wS 61]) h2).1 hl6 (by intro w hw; simp only [List.mem_cons, List.not_mem_nil, or_false] at hw; rcases hw with rfl | rfl | rfl <;> decide) (by decide)
  have h3 : Bg l (0 + 1 + 1 + 3) (w ++ wS 59 :: (capw cap ++ [wS 125])) := (Bg.cut (u := [wS 123, wN [102, 101, 101], wS 61]) h2).2
  have h3' := h3
  rw [show w ++ wS 59 :: (capw cap ++ [wS 125]) = (w ++ [wS 59]) ++ (capw cap ++ [wS 125]) by simp] at h3'
  have e4 := he _ h3'.cut.1
  have h4 := h3.cut.2
  obtain ⟨e5, h5⟩ := one_sign h4 hl6
  obtain ⟨t6, _, f6, k6, x6, _, l6, _⟩ := h4.next
  have is6 : isT l (0 + 1 + 1 + 3 + w.length) 0 [59] = true := by
    unfold isT
    have : nextT l (0 + 1 + 1 + 3 + w.length) 0 = t6 := f6
    rw [this, k6, x6]; rfl
  obtain ⟨⟨z, b⟩, e7, hz⟩ := sized_x hf 10 100 (by decide) (by decide)
  obtain rfl : b = true := hz.2 hw.2.1.1.1 hw.2.1.1.2
  unfold tariff_Parse
  refine Ev.bind (Scan_ev hs) ?_
  rw [hsc]
  refine Ev.else rfl ?_
  refine Ev.bind e1 (Ev.bind (Ev.all e2) (Ev.bind e3 (Ev.bind e4 ?_)))
  refine Ev.bind (Ev.all fun n => is_n n [59] (by exact Nat.le_of_lt l6)) ?_
  rw [is6]
  refine Ev.bind (a := (false, z)) (Ev.then rfl (Ev.bind e7 (Ev.pure _))) ?_
  refine Ev.bind (a := (l, ((0 + 1 + 1 + 3 + w.length : Nat) : Int), 0)) (Ev.else rfl (Ev.pure _)) ?_
  refine Ev.bind e5 ?_
  have fin : ∀ (a : Nat) (c : Int), Bg l a [wS 125] → a + 1 = l.length → Ev (fun n => (tariff_reader_need n (Rd l a 0) [[125]]).bind fun v10 =>
      (bif decide (v10.at_ < (l.length : Int)) then
       (tariff_reader_fail n v10 12).bind fun v11 =>
       some (v11.l, v11.at_, v11.e)
      else
       some (v10.l, v10.at_, v10.e)).bind fun (_, f10, f11) =>
      bif f11 == 0 then
       some ((⟨tn.Text, fee, c⟩ : Tariff), 0, 0)
      else
       bif decide (f10 < (l.length : Int)) then
        (ix l f10).bind fun ex1 =>
        some ((⟨[], (⟨0, 0, [], []⟩ : M.Expr), 0⟩ : Tariff), ex1.Pos, f11)
       else
        some ((⟨[], (⟨0, 0, [], []⟩ : M.Expr), 0⟩ : Tariff), (s.length : Int), f11)) (⟨nm, fee, c⟩, 0, 0) := by
    intro a c hb hal
    obtain ⟨e, _⟩ := one_sign hb hl6
    refine Ev.bind e (Ev.bind (a := (l, ((a + 1 : Nat) : Int), 0)) (Ev.else (decide_eq_false (show ¬((a + 1 : Nat) : Int) < (l.length : Int) by omega)) (Ev.pure _)) (Ev.then rfl ?_))
    rw [g2]
    exact Ev.pure _
  simp only [pwx, List.length_cons, List.length_append, List.length_nil] at hlen
  by_cases hc : cap = -1
  · subst hc
    have h5' : Bg l (0 + 1 + 1 + 3 + w.length + 1) [wS 125] := h5
    have ht : ∀ n, tariff_reader_take n (Rd l (0 + 1 + 1 + 3 + w.length + 1) 0) [99, 97, 112] = some (Rd l (0 + 1 + 1 + 3 + w.length + 1) 0, false) := h5'.leave hl6 (.inr (by decide))
    refine Ev.bind (Ev.all ht) (Ev.bind (a := (-1, l, ((0 + 1 + 1 + 3 + w.length + 1 : Nat) : Int), 0)) (Ev.else rfl (Ev.pure _)) ?_)
    refine fin _ _ h5' ?_
    have : (capw (-1)).length = 0 := rfl
    omega
  · have hcw : capw cap = [wN [99, 97, 112], wS 61, wK cap, wS 59] := if_pos hc
    rw [hcw] at h5
    have h5' : Bg l (0 + 1 + 1 + 3 + w.length + 1) (wN [99, 97, 112] :: wS 61 :: wK cap :: wS 59 :: [wS 125]) := h5
    have h6 := (Bg.cut (u := [wN [99, 97, 112]]) h5').2
    obtain ⟨e8, h7⟩ := one_sign h6 hl6
    obtain ⟨tc, e9, _, g9⟩ := one_b h7 hl6
    have h8 := (Bg.cut (u := [wK cap]) h7).2
    obtain ⟨e10, h9⟩ := one_sign h8 hl6
    refine Ev.bind (Ev.all (h5'.take hl6 (.inl rfl))) (Ev.bind (a := (cap, l, ((0 + 1 + 1 + 3 + w.length + 1 + 1 + 1 + 1 + 1 : Nat) : Int), 0)) (Ev.then rfl (Ev.bind e8 (Ev.bind (Ev.all e9) (Ev.bind e10 ?_)))) ?_)
    · refine (Ev.pure _).eq ?_
      rw [g9]; rfl
    refine fin _ _ h9 ?_
    rw [hcw] at hlen
    simp only [List.length_cons, List.length_nil] at hlen ⊢
    omega
theorem parse_ptx {t : Tariff} (hw : Wrt t) (hf : Fit t.Fee) : Ev (fun n => tariff_Parse n (ptx t)) (t, 0, 0) := by
  obtain ⟨l, h1, h2⟩ := ptx_scan hw
  have h3 := (ptx_words hw).2
  refine parse_words hw hf h1 (by omega) h2 fun a hb => ?_
  refine (read_ok hw.2.1.2).2.1 l a _ (wS 59) ?_ hb rfl rfl
  have := scan_len (ptx t); rw [h1] at this; dsimp only at this; omega
end Go.Proofs.YtpihabofmnnbbaaDoor.Pr
