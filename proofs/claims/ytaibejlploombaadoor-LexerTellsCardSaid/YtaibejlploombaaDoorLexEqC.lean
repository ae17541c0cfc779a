/-
  PLAIN: the reference's tokens, scan and print.
-/
import Derived.Test.YtaibejlploombaaDoorLexEqB
namespace Go.Proofs.YtaibejlploombaaDoor.Lx
open Rt M Go

theorem rspan1 {s : Rt.Bs} (hs : s.length ≤ 1000000) {n : Nat} {kont : Int → Option (Token × Int × Int)} :
    ∀ {r : Rt.Bs} {i m : Nat}, s.drop i = r → i ≤ s.length → r.length < m → ref06_token_L1 n s kont m (i : Int) = kont ((i + spanN isInner r : Nat) : Int)
  | [], i, m + 1, h, hi, _ => by
    have := drop_nil h hi
    rw [ref06_token_L1_s]
    simp [this, spanN]
  | c :: r, i, m + 1, h, hi, hm => by
    have h1 := len_drop h
    simp only [List.length_cons] at hm
    have e : (bif (bif isLetter c then true else isDigit c) then true else (c.toNat : Int) == 95) = isInner c :=
      of_decide_eq_true (byte_all (p := fun c => decide ((bif (bif isLetter c then true else isDigit c) then true else (c.toNat : Int) == 95) = isInner c)) (by decide +kernel) c)
    have e2 : ((bif isLetter c then some true else some (isDigit c)).bind fun v5 => (bif v5 then some true else some ((c.toNat : Int) == 95))) = some (isInner c) := by
      rw [← e]
      cases isLetter c <;> cases isDigit c <;> rfl
    rw [ref06_token_L1_s, sidx_drop h, decide_eq_true (by omega)]
    simp only [cond_true, Option.bind_some, rletter_eq, rdigit_eq]
    have e3 : ((bif isLetter c then some true else some (isDigit c)).bind fun v5 => (bif v5 then some true else some ((c.toNat : Int) == 95)).bind fun v6 => some v6) = some (isInner c) := by
      rw [← e2]
      cases isLetter c <;> cases isDigit c <;> rfl
    rw [e3, Option.bind_some]
    cases hp : isInner c
    · simp [spanN, hp]
    · rw [cond_true, iadd_nat1 _ (by omega), rspan1 hs (drop_succ h) (by omega) (by omega)]
      simp only [spanN, hp, cond_true]
      congr 2; omega
theorem rspan2 {s : Rt.Bs} (hs : s.length ≤ 1000000) {n : Nat} {kont : Int → Option (Token × Int × Int)} :
    ∀ {r : Rt.Bs} {i m : Nat}, s.drop i = r → i ≤ s.length → r.length < m → ref06_token_L2 n s kont m (i : Int) = kont ((i + spanN isDigit r : Nat) : Int)
  | [], i, m + 1, h, hi, _ => by
    have := drop_nil h hi
    rw [ref06_token_L2_s]
    simp [this, spanN]
  | c :: r, i, m + 1, h, hi, hm => by
    have h1 := len_drop h
    simp only [List.length_cons] at hm
    rw [ref06_token_L2_s, sidx_drop h, decide_eq_true (by omega)]
    simp only [cond_true, Option.bind_some, rdigit_eq]
    cases hp : isDigit c
    · simp [spanN, hp]
    · rw [cond_true, iadd_nat1 _ (by omega), rspan2 hs (drop_succ h) (by omega) (by omega)]
      simp only [spanN, hp, cond_true]
      congr 2; omega

theorem rsign_loop (n : Nat) (c : UInt8) :
    ∀ {r : Rt.Bs} {i m : Nat}, signs.drop i = r → i ≤ 13 → r.length < m → ref06_sign_L1 n (c.toNat : Int) (some false) m (i : Int) = some (r.contains c)
  | [], i, m + 1, h, hi, _ => by
    have := congrArg List.length h
    simp only [signs, List.length_drop, List.length_cons, List.length_nil] at this
    have : i = 13 := by omega
    subst this
    rw [ref06_sign_L1_s]; rfl
  | d :: r, i, m + 1, h, hi, hm => by
    have h1 := congrArg List.length h
    simp only [signs, List.length_drop, List.length_cons, List.length_nil] at h1 hm
    have h2 : sidx [40, 41, 44, 59, 58, 61, 60, 43, 45, 42, 47, 123, 125] (i : Int) = some (d.toNat : Int) := sidx_drop (s := signs) h
    rw [ref06_sign_L1_s, decide_eq_true (by simp only [List.length_cons, List.length_nil]; omega), cond_true, h2, Option.bind_some, toNat_inj, List.contains_cons, Bool.beq_comm (a := d) (b := c)]
    cases e : (c == d)
    · rw [cond_false, iadd_nat1 _ (by omega), rsign_loop n c (r := r) (by rw [← List.drop_drop, h]; rfl) (by omega) (by omega), Bool.false_or]
    · rfl
theorem rsign_eq {n : Nat} (hn : 13 < n) (c : UInt8) : ref06_sign n (c.toNat : Int) = some (isSign c) :=
  rsign_loop n c (r := signs) (i := 0) rfl (by omega) (by simpa [signs] using hn)

def rtok (x : Rt.Bs) (at_ : Nat) : Token × Int × Int :=
  if (next x).2.2 = 0 then ({ (next x).1 with Pos := (at_ : Int) }, ((at_ + (next x).2.1 : Nat) : Int), 0) else (errT, 0, (next x).2.2)

theorem token_eq {s x : Rt.Bs} {at_ : Nat} (hx : s.drop at_ = x) (h0 : x ≠ []) (hs : s.length ≤ 1000000) {n : Nat} (hn : s.length + 13 < n) : ref06_token n s (at_ : Int) = some (rtok x at_) := by
  obtain ⟨c, r, rfl⟩ : ∃ c r, x = c :: r := by
    cases x with
    | nil => exact absurd rfl h0
    | cons c r => exact ⟨c, r, rfl⟩
  have h1 := len_drop hx
  have hr := drop_succ hx
  have hi := spanN_le isInner r
  have hd := spanN_le isDigit r
  simp only [ref06_token, sidx_drop hx, Option.bind_some, rletter_eq, rdigit_eq]
  have hsub : ∀ k, k ≤ r.length → ssl s (at_ : Int) ((at_ + 1 + k : Nat) : Int) = some ((c :: r).take (k + 1)) := by
    intro k hk
    rw [ssl_nat _ _ (by omega) (by omega), List.drop_take, hx, show at_ + 1 + k - at_ = k + 1 by omega]
  rw [rtok]
  by_cases hl : isLetter c = true
  · have h2 : spanN isInner (c :: r) = spanN isInner r + 1 := by simp only [spanN, letter_inner hl, cond_true]
    have hN : next (c :: r) = if name ((c :: r).take (spanN isInner (c :: r))) then (⟨0, (c :: r).take (spanN isInner (c :: r)), 0, 0⟩, spanN isInner (c :: r), 0) else (errT, 0, 3) := by rw [next, if_pos (by simpa using hl)]
    rw [hN, hl, cond_true, iadd_nat1 _ (by omega), rspan1 hs hr (by omega) (by omega), hsub _ hi, Option.bind_some, rname_eq (by simp only [List.length_take, List.length_cons]; omega) (by simp only [List.length_take, List.length_cons]; omega), Option.bind_some, h2]
    cases hn : name ((c :: r).take (spanN isInner r + 1))
    · rfl
    · simp only [Bool.not_true, cond_false, Option.bind_some, if_true]
      rw [show at_ + 1 + spanN isInner r = at_ + (spanN isInner r + 1) by omega]
  have hl' : isLetter c = false := by simpa using hl
  rw [hl', cond_false]
  by_cases hdd : isDigit c = true
  · have h2 : spanN isDigit (c :: r) = spanN isDigit r + 1 := by simp only [spanN, hdd, cond_true]
    have hN : next (c :: r) = if (number ((c :: r).take (spanN isDigit (c :: r)))).2 then (⟨1, (c :: r).take (spanN isDigit (c :: r)), (number ((c :: r).take (spanN isDigit (c :: r)))).1, 0⟩, spanN isDigit (c :: r), 0) else (errT, 0, 3) := by
      rw [next, if_neg (by simpa using hl), if_pos (by simpa using hdd)]
    rw [hN, hdd, cond_true, iadd_nat1 _ (by omega), rspan2 hs hr (by omega) (by omega), hsub _ hd, Option.bind_some, rnumber_eq (by simp only [List.length_take, List.length_cons]; omega) (by simp only [List.length_take, List.length_cons]; omega), Option.bind_some, h2]
    cases hn : (number ((c :: r).take (spanN isDigit r + 1))).2
    · rfl
    · simp only [Bool.not_true, cond_false, Option.bind_some, if_true]
      rw [show at_ + 1 + spanN isDigit r = at_ + (spanN isDigit r + 1) by omega]
  have hdd' : isDigit c = false := by simpa using hdd
  rw [hdd', cond_false]
  by_cases hq : c.toNat = 34
  · have e : ((c.toNat : Int) == 34) = true := by rw [hq]; rfl
    have hN : next (c :: r) = if (quoted (c :: r)).2 = 0 then (errT, 0, 2) else (⟨2, (quoted (c :: r)).1, 0, 0⟩, (quoted (c :: r)).2, 0) := by
      rw [next, if_neg (by simpa using hl), if_neg (by simpa using hdd), if_pos (by simpa using hq)]
    rw [hN, e, cond_true, rquoted_eq hx h0 hs (by omega), Option.bind_some]
    by_cases hz : (quoted (c :: r)).2 = 0
    · rw [if_pos hz, if_pos hz]; rfl
    · rw [if_neg hz, if_neg hz]; rfl
  have e : ((c.toNat : Int) == 34) = false := by rw [beq_eq_false_iff_ne]; omega
  have hN : next (c :: r) = if isSign c then (⟨3, (c :: r).take 1, 0, 0⟩, 1, 0) else (errT, 0, 10) := by
    rw [next, if_neg (by simpa using hl), if_neg (by simpa using hdd), if_neg (by simpa using hq)]; rfl
  rw [hN, e, cond_false, rsign_eq (by omega), Option.bind_some]
  cases hsg : isSign c
  · rfl
  · have := hsub 0 (by omega)
    simp only [Nat.add_zero, Nat.zero_add] at this
    rw [Bool.not_true, cond_false, iadd_nat1 _ (by omega), this]; rfl

/-! all tokens -/
theorem gap_idem : ∀ (b : Bool) (r : Rt.Bs), gapN false (r.drop (gapN b r)) = 0
  | _, [] => by simp [gapN]
  | true, c :: r => by
    simp only [gapN]
    split
    · exact gap_idem false r
    · exact gap_idem true r
  | false, c :: r => by
    simp only [gapN]
    split
    · exact gap_idem false r
    · rename_i h1
      split
      · exact gap_idem true r
      · rename_i h2
        simp only [List.drop_zero, gapN, h1, h2, if_false]
        simp
theorem scanF_fuel : ∀ {f f' : Nat} {r : Rt.Bs} {a : Nat}, r.length < f → r.length < f' → scanF f r a = scanF f' r a
  | f + 1, f' + 1, r, a, h, h' => by
    by_cases h1 : gapN false r = r.length
    · rw [scanF_end h1, scanF_end h1]
    have h4 := gapN_le false r
    by_cases h2 : (next (r.drop (gapN false r))).2.2 = 0
    · have h3 := next_len (gap_ne h1) h2
      rw [scanF_more h1 h2, scanF_more h1 h2, scanF_fuel (f := f) (f' := f') (by simp only [List.length_drop]; omega) (by simp only [List.length_drop]; omega)]
    · rw [scanF_bad h1 h2, scanF_bad h1 h2]
theorem scanF_skip {f : Nat} {r : Rt.Bs} {a : Nat} (h : r.length < f) : scanF f r a = scanF f (r.drop (gapN false r)) (a + gapN false r) := by
  obtain ⟨f, rfl⟩ : ∃ k, f = k + 1 := ⟨f - 1, by omega⟩
  have h4 := gapN_le false r
  have hz := gap_idem false r
  by_cases h1 : gapN false r = r.length
  · rw [scanF_end h1, scanF_end (by rw [hz, List.length_drop]; omega)]
  have h1' : gapN false (r.drop (gapN false r)) ≠ (r.drop (gapN false r)).length := by rw [hz, List.length_drop]; omega
  by_cases h2 : (next (r.drop (gapN false r))).2.2 = 0
  · rw [scanF_more h1 h2, scanF_more h1' (by rw [hz, List.drop_zero]; exact h2), hz, List.drop_zero, Nat.zero_add, List.drop_drop, Nat.add_zero]
  · rw [scanF_bad h1 h2, scanF_bad h1' (by rw [hz, List.drop_zero]; exact h2), hz, List.drop_zero, Nat.add_zero]

/-- what is left to do: in a comment or not -/
def rest (b : Bool) (r : Rt.Bs) (a : Nat) : List Token × Nat × Int := scanF (r.length + 1) (r.drop (gapN b r)) (a + gapN b r)
theorem rest_false (r : Rt.Bs) (a : Nat) : rest false r a = scanF (r.length + 1) r a := (scanF_skip (by omega)).symm
def outc (acc : List Token) (x : List Token × Nat × Int) : List Token × Int × Int := if x.2.2 = 0 then (acc ++ x.1, 0, 0) else ([], (x.2.1 : Int), x.2.2)

theorem rest_step {b b' : Bool} {c : UInt8} {r : Rt.Bs} {a : Nat} (h : gapN b (c :: r) = gapN b' r + 1) : rest b (c :: r) a = rest b' r (a + 1) := by
  have h4 := gapN_le b' r
  rw [rest, rest, h, List.drop_succ_cons, List.length_cons, show a + (gapN b' r + 1) = a + 1 + gapN b' r by omega]
  exact scanF_fuel (by simp only [List.length_drop]; omega) (by simp only [List.length_drop]; omega)

theorem rscan_loop {s : Rt.Bs} (hs : s.length ≤ 1000000) {n : Nat} (hn : s.length + 13 < n) :
    ∀ {m at_ : Nat} {b : Bool} {r : Rt.Bs} {acc : List Token}, s.drop at_ = r → at_ ≤ s.length → acc.length ≤ at_ → 2 * r.length + (if b then 0 else 1) < m →
      ref06_Scan_L1 n s (fun l2 => some (l2, 0, 0)) m (at_ : Int) b acc = some (outc acc (rest b r at_))
  | m + 1, at_, b, [], acc, h, hi, ha, hm => by
    have := drop_nil h hi
    rw [ref06_Scan_L1_s, decide_eq_false (by omega), cond_false, rest]
    cases b <;> simp [gapN, scanF, outc]
  | m + 1, at_, b, c :: r, acc, h, hi, ha, hm => by
    have h1 := len_drop h
    simp only [List.length_cons] at hm
    rw [ref06_Scan_L1_s, decide_eq_true (by omega), cond_true, sidx_drop h]
    simp only [Option.bind_some, rblank_eq]
    by_cases h10 : c.toNat = 10
    · have hc : c = 10 := UInt8.toNat_inj.mp h10
      have e : ((c.toNat : Int) == 10) = true := by rw [h10]; rfl
      have eb : isBlank c = true := by rw [hc]; decide
      have hg : gapN b (c :: r) = gapN false r + 1 := by cases b <;> simp [gapN, h10, eb]
      rw [e, eb, cond_true, cond_true, iadd_nat1 _ (by omega), rscan_loop hs hn (drop_succ h) (by omega) (by omega) (by simp; split at hm <;> omega), rest_step hg]
    have e : ((c.toNat : Int) == 10) = false := by rw [beq_eq_false_iff_ne]; omega
    rw [e, cond_false]
    cases b
    · simp only [cond_false, Option.bind_some]
      cases eb : isBlank c
      · rw [cond_false]
        by_cases h35 : c.toNat = 35
        · have e5 : ((c.toNat : Int) == 35) = true := by rw [h35]; rfl
          have hg : gapN false (c :: r) = gapN true (c :: r) := by simp [gapN, eb, h35]
          rw [e5, cond_true, rscan_loop hs hn h hi ha (by simp at hm ⊢; omega), rest, rest, hg]
        · have e5 : ((c.toNat : Int) == 35) = false := by rw [beq_eq_false_iff_ne]; omega
          have hg : gapN false (c :: r) = 0 := by simp [gapN, eb, h35]
          have hne : gapN false (c :: r) ≠ (c :: r).length := by rw [hg]; simp
          rw [e5, cond_false, token_eq h (by simp) hs hn, Option.bind_some, rest_false, List.length_cons]
          by_cases hx : (next (c :: r)).2.2 = 0
          · have h3 := next_len (l := c :: r) (by simp) hx
            simp only [List.length_cons] at h3
            rw [rtok, if_pos hx]
            simp only [bne_self_eq_false, cond_false]
            have h5 : ((acc.length + [(⟨(next (c :: r)).1.Kind, (next (c :: r)).1.Text, (next (c :: r)).1.N, (at_ : Int)⟩ : Token)].length) * 40) ≤ 140737488355328 := by
              simp only [List.length_cons, List.length_nil]; omega
            rw [app, if_pos h5, Option.bind_some, rscan_loop hs hn (r := (c :: r).drop (next (c :: r)).2.1) (by rw [← List.drop_drop, h]) (by omega) (by simp only [List.length_append, List.length_cons, List.length_nil]; omega)
              (by simp only [List.length_drop, List.length_cons]; simp at hm ⊢; omega), rest_false]
            rw [scanF_more hne (by rw [hg]; exact hx), hg, List.drop_zero, Nat.zero_add, Nat.add_zero,
              scanF_fuel (f := ((c :: r).drop (next (c :: r)).2.1).length + 1) (f' := r.length + 1) (by omega) (by simp only [List.length_drop, List.length_cons]; omega)]
            by_cases hy : (scanF (r.length + 1) ((c :: r).drop (next (c :: r)).2.1) (at_ + (next (c :: r)).2.1)).2.2 = 0
            · simp [outc, hy]
            · simp [outc, hy]
          · rw [rtok, if_neg hx, scanF_bad hne (by rw [hg]; exact hx), hg, List.drop_zero, Nat.add_zero]
            have e2 : ((next (c :: r)).2.2 != 0) = true := bne_iff_ne.mpr hx
            simp only [e2, cond_true, outc]
            rw [if_neg hx]
      · have hg : gapN false (c :: r) = gapN false r + 1 := by simp [gapN, eb]
        rw [cond_true, iadd_nat1 _ (by omega), rscan_loop hs hn (drop_succ h) (by omega) (by omega) (by simp at hm ⊢; omega), rest_step hg]
    · have hg : gapN true (c :: r) = gapN true r + 1 := by simp [gapN, h10]
      simp only [cond_true, Option.bind_some]
      rw [iadd_nat1 _ (by omega), rscan_loop hs hn (drop_succ h) (by omega) (by omega) (by simp at hm ⊢; omega), rest_step hg]

theorem rscan_eq {s : Rt.Bs} (hs : s.length ≤ 1000000) {n : Nat} (hn : 2 * s.length + 13 < n) : ref06_Scan n s = some ((scan s).1, ((scan s).2.1 : Int), (scan s).2.2) := by
  have he := scan_eq hs (n := n) (by omega)
  rw [← he, ref06_Scan, lexer_Scan]
  by_cases h : s.length > 4000
  · rw [decide_eq_true (by omega)]; rfl
  · have h1 := rscan_loop hs (n := n) (by omega) (m := n) (at_ := 0) (b := false) (r := s) (acc := []) rfl (by omega) (by simp) (by simp; omega)
    have h2 := scan_loop hs (n := n) (by omega) (m := n) (f := s.length + 1) (at_ := 0) (r := s) (acc := []) rfl (by omega) (by simp) (by omega) (by omega)
    rw [decide_eq_false (by omega), cond_false, cond_false]
    refine h1.trans (Eq.trans ?_ h2.symm)
    rw [rest_false]; rfl

/-! printing, comparing -/
theorem join_snoc (t : Token) (r : List Token) (x : Rt.Bs) : x ++ shown t ++ body r = x ++ (shown t ++ body r) := List.append_assoc _ _ _
theorem rprint_loop {l : List Token} (hl : l.length ≤ 1000000) (ht : ∀ t ∈ l, t.Text.length ≤ 1000000) {n : Nat} (hn : 1000000 < n) :
    ∀ {r : List Token} {i m : Nat} {s : Rt.Bs}, l.drop i = r → i ≤ l.length → s.length ≤ i * 3000000 → r.length < m → ref06_Print_L1 n l (fun s3 => some s3) m s (i : Int) = some (s ++ if i = 0 then print r else body r)
  | [], i, m + 1, s, h, hi, _, _ => by
    have : i = l.length := by
      have := congrArg List.length h
      simp only [List.length_drop, List.length_nil] at this; omega
    rw [ref06_Print_L1_s]
    simp [this, print, body, Lib.join]
  | t :: r, i, m + 1, s, h, hi, hb, hm => by
    have h1 : i + r.length + 1 = l.length := by
      have := congrArg List.length h
      simp only [List.length_drop, List.length_cons] at this; omega
    have h2 : l.drop (i + 1) = r := by rw [← List.drop_drop, h, List.drop_one, List.tail_cons]
    simp only [List.length_cons] at hm
    have h4 : t ∈ l := by
      have : t ∈ l.drop i := by rw [h]; simp
      exact List.mem_of_mem_drop this
    have h5 := ht t h4
    have h6 := esc_le t.Text
    have hE : (escaped t.Text).length ≤ 2000002 := by simp only [escaped, List.length_cons, List.length_append, List.length_nil]; omega
    have hmul : (i + 1) * 3000000 = i * 3000000 + 3000000 := by omega
    have hp : print (t :: r) = shown t ++ body r := by rw [print, join_body]
    rw [ref06_Print_L1_s, decide_eq_true (by omega), cond_true, ix_drop h]
    simp only [Option.bind_some]
    by_cases h0 : i = 0
    · rw [decide_eq_false (by omega), cond_false, if_pos h0, hp]
      by_cases hk : t.Kind = 2
      · have e : (t.Kind == 2) = true := by rw [hk]; rfl
        rw [e, cond_true, resc_eq h5 (by omega), Option.bind_some, scat_le (by omega), Option.bind_some, iadd_nat1 _ (by omega), rprint_loop hl ht hn h2 (by omega) (by simp only [List.length_append]; omega) (by omega)]
        simp [shown, hk]
      · have e : (t.Kind == 2) = false := by rw [beq_eq_false_iff_ne]; exact hk
        rw [e, cond_false, scat_le (by omega), Option.bind_some, iadd_nat1 _ (by omega), rprint_loop hl ht hn h2 (by omega) (by simp only [List.length_append]; omega) (by omega)]
        simp [shown, hk]
    · rw [decide_eq_true (by omega), cond_true, if_neg h0, scat_le (by simp; omega), Option.bind_some]
      by_cases hk : t.Kind = 2
      · have e : (t.Kind == 2) = true := by rw [hk]; rfl
        rw [e, cond_true, resc_eq h5 (by omega), Option.bind_some, scat_le (by simp; omega), Option.bind_some, iadd_nat1 _ (by omega), rprint_loop hl ht hn h2 (by omega) (by simp only [List.length_append, List.length_cons, List.length_nil]; omega) (by omega)]
        simp [shown, hk, body]
      · have e : (t.Kind == 2) = false := by rw [beq_eq_false_iff_ne]; exact hk
        rw [e, cond_false, scat_le (by simp; omega), Option.bind_some, iadd_nat1 _ (by omega), rprint_loop hl ht hn h2 (by omega) (by simp only [List.length_append, List.length_cons, List.length_nil]; omega) (by omega)]
        simp [shown, hk, body]
theorem rprint_eq {l : List Token} (hl : l.length ≤ 1000000) (ht : ∀ t ∈ l, t.Text.length ≤ 1000000) {n : Nat} (hn : 1000000 < n) : ref06_Print n l = some (print l) :=
  rprint_loop hl ht hn (r := l) (i := 0) (m := n) (s := []) rfl (by omega) (by simp) (by omega)

theorem eqb_refl (t : Token) : eqb_Token t t = true := by simp [eqb_Token]
theorem same_loop {A : List Token} (hA : A.length ≤ 1000000) {n : Nat} :
    ∀ {r : List Token} {i m : Nat}, A.drop i = r → i ≤ A.length → r.length < m → ref06_Same_L1 n A A (some true) m (i : Int) = some true
  | [], i, m + 1, h1, hi, _ => by
    have : i = A.length := by
      have := congrArg List.length h1
      simp only [List.length_drop, List.length_nil] at this; omega
    rw [ref06_Same_L1_s]; simp [this]
  | t :: r, i, m + 1, h1, hi, hm => by
    have h2 : i + r.length + 1 = A.length := by
      have := congrArg List.length h1
      simp only [List.length_drop, List.length_cons] at this; omega
    have h3 : A.drop (i + 1) = r := by rw [← List.drop_drop, h1, List.drop_one, List.tail_cons]
    simp only [List.length_cons] at hm
    rw [ref06_Same_L1_s, decide_eq_true (by omega), cond_true, ix_drop h1]
    simp only [Option.bind_some, eqb_refl, Bool.not_true, cond_false]
    rw [iadd_nat1 _ (by omega)]
    exact same_loop hA h3 (by omega) (by omega)
theorem same_eq {A : List Token} (hA : A.length ≤ 1000000) {n : Nat} (hn : A.length < n) : ref06_Same n A A = some true := by
  rw [ref06_Same, bne_self_eq_false, cond_false]
  exact same_loop hA (r := A) (i := 0) rfl (by omega) hn

/-! LexerTells -/
theorem tells_loop {l : List Token} (hl : l.length ≤ 100) {n : Nat} {kont : Option Bool} (hk : (∀ t ∈ l, t.Text.length ≤ 100) → kont = some true) :
    ∀ {r : List Token} {i m : Nat}, l.drop i = r → i ≤ l.length → (∀ t ∈ l.take i, t.Text.length ≤ 100) → r.length < m → law06_LexerTells_L1 n l true kont m (i : Int) = some true
  | [], i, m + 1, h, hi, ha, _ => by
    have : i = l.length := by
      have := congrArg List.length h
      simp only [List.length_drop, List.length_nil] at this; omega
    rw [law06_LexerTells_L1_s, decide_eq_false (by omega), cond_false]
    rw [this, List.take_length] at ha
    exact hk ha
  | t :: r, i, m + 1, h, hi, ha, hm => by
    have h1 : i + r.length + 1 = l.length := by
      have := congrArg List.length h
      simp only [List.length_drop, List.length_cons] at this; omega
    have h2 : l.drop (i + 1) = r := by rw [← List.drop_drop, h, List.drop_one, List.tail_cons]
    simp only [List.length_cons] at hm
    rw [law06_LexerTells_L1_s, decide_eq_true (by omega), cond_true, ix_drop h, Option.bind_some]
    by_cases h3 : t.Text.length ≤ 100
    · rw [decide_eq_false (by omega), cond_false, iadd_nat1 _ (by omega), tells_loop hl hk h2 (by omega) ?_ (by omega)]
      intro x hx
      have h4 : l[i]? = some t := by
        have := congrArg (·[0]?) h
        simpa using this
      rw [List.take_add_one, h4] at hx
      simp only [Option.toList_some, List.mem_append, List.mem_singleton] at hx
      rcases hx with hx | rfl
      · exact ha x hx
      · exact h3
    · rw [decide_eq_true (by omega)]; rfl

theorem lexerTells (s : Rt.Bs) (l : List Token) : law06_LexerTells 2000000 s l = some true := by
  have hc : (s.take 900).length ≤ 900 := by simp; omega
  rw [law06_LexerTells, sane (by omega), Option.bind_some]
  by_cases hl : l.length ≤ 100
  · rw [decide_eq_false (by omega), cond_false]
    refine tells_loop hl (fun ht => ?_) (r := l) (i := 0) rfl (by omega) (by simp) (by omega)
    have ht' : ∀ t ∈ l, t.Text.length ≤ 1000000 := fun t h => by have := ht t h; omega
    have htot : ∀ l : List Token, (∀ t ∈ l, t.Text.length ≤ 100) → total l ≤ 202 * l.length := by
      intro l
      induction l with
      | nil => intro _; simp [total]
      | cons t l ih =>
        intro h
        have h1 := ih (fun x hx => h x (by simp [hx]))
        have h2 := h t (by simp)
        have h3 := esc_le t.Text
        have h4 : (shown t).length ≤ 202 := by
          rw [shown]; split
          · simp only [escaped, List.length_cons, List.length_append, List.length_nil]; omega
          · omega
        simp only [total, List.map_cons, List.sum_cons, List.length_cons] at *
        omega
    have h1 := htot l ht
    have h2 := print_len l
    have h3 : (scan (s.take 900)).1.length ≤ 900 := by
      by_cases h : (scan (s.take 900)).2.2 = 0
      · have e : scan (s.take 900) = scanF ((s.take 900).length + 1) (s.take 900) 0 := by rw [scan, if_neg (by omega)]
        have := (scanF_ok (f := (s.take 900).length + 1) (r := s.take 900) (a := 0) (by rw [← e]; exact h)).2.2
        rw [e]; omega
      · rw [scan_nil h]; simp
    rw [cut_eq, Option.bind_some, scan_eq (by omega) (by omega), Option.bind_some, rscan_eq (by omega) (by omega), Option.bind_some, number_eq (by omega) (by omega), Option.bind_some, rnumber_eq (by omega) (by omega), Option.bind_some,
      quote_eq (by omega) (by omega), Option.bind_some, rquote_eq (by omega) (by omega), Option.bind_some]
    simp only [cond_true]
    rw [same_eq (by omega) (by omega)]
    simp only [Option.bind_some, cond_true, beq_self_eq_true]
    rw [name_eq (by omega) (by omega), rname_eq (by omega) (by omega)]
    simp only [Option.bind_some, beq_self_eq_true, cond_true]
    rw [print_eq (by omega) ht' (by omega) (by omega), rprint_eq (by omega) ht' (by omega)]
    simp
  · rw [decide_eq_true (by omega)]; rfl
end Go.Proofs.YtaibejlploombaaDoor.Lx
