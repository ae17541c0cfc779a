/-
  THE LAW CouncilVotes, in plain Lean: the mirrored law is true at all arguments.
-/
import Derived.Test.YtibkigpmkkkaeaaDoorCnS
import Derived.Test.YtibkigpmkkkaeaaDoorMirD3
namespace Go.Proofs.YtibkigpmkkkaeaaDoor.Cn
open Go Rt M

/-- what a commune's last vote is, as the law looks for it -/
def own1 (mo c : Int) (vs : List Vote) : List Vote := match lastV mo c none vs with
  | some b => [⟨mo, c, b⟩]
  | none => []
theorem Votes_L2 (n : Nat) (votes : List Vote) (mo c : Int) (kont : Bool → Int → Int → Bool → Option Bool) (hl : votes.length < 4611686018427387904) : ∀ (us : List Vote) (i m : Nat) (fd : Bool) (f1 f2 : Int) (f3 : Bool), votes.drop i = us → us.length < m → (fd = true → f1 = mo ∧ f2 = c) →
    ∃ g1 g2 g3, law40_CouncilVotes_L2 n votes mo c kont m fd (i : Int) f1 f2 f3 = kont (lastV mo c (if fd then some f3 else none) us).isSome g1 g2 g3 ∧ ∀ b, lastV mo c (if fd then some f3 else none) us = some b → g1 = mo ∧ g2 = c ∧ g3 = b
  | [], i, m + 1, fd, f1, f2, f3, hd, _, hf => by
    refine ⟨f1, f2, f3, ?_, ?_⟩
    · rw [law40_CouncilVotes_L2_s, more_no hd]
      cases fd <;> rfl
    · intro b hb
      cases fd with
      | false => cases hb
      | true => cases hb; exact ⟨(hf rfl).1, (hf rfl).2, rfl⟩
  | v :: us, i, m + 1, fd, f1, f2, f3, hd, hm, hf => by
    obtain ⟨h1, h2, h3⟩ := drop_cons hd
    have hm' : us.length < m := by simp only [List.length_cons] at hm; omega
    have e : (bif v.Motion == mo then (ix votes (i : Int)).bind fun ex3 => some (ex3.Commune == c) else some false) = some (decide (v.Motion = mo ∧ v.Commune = c)) := by
      rw [h1]
      by_cases a : v.Motion = mo
      · rw [show (v.Motion == mo) = true by simpa using a, cond_true, Option.bind_some]
        by_cases b : v.Commune = c <;> simp [a, b]
      · rw [show (v.Motion == mo) = false by simpa using a, cond_false, decide_eq_false (fun h => a h.1)]
    rw [law40_CouncilVotes_L2_s, more_yes hd, cond_true, h1, Option.bind_some]
    rw [h1] at e
    rw [e, Option.bind_some, Option.bind_some, lastV_cons]
    by_cases h : v.Motion = mo ∧ v.Commune = c
    · obtain ⟨g1, g2, g3, e1, e2⟩ := Votes_L2 n votes mo c kont hl us (i + 1) m true v.Motion v.Commune v.Yes h2 hm' (fun _ => h)
      refine ⟨g1, g2, g3, ?_, ?_⟩
      · rw [decide_eq_true h, cond_true, inc64 (by omega), e1]
        unfold pickV
        rw [if_pos h]; rfl
      · intro b hb
        unfold pickV at hb
        rw [if_pos h] at hb
        exact e2 b hb
    · obtain ⟨g1, g2, g3, e1, e2⟩ := Votes_L2 n votes mo c kont hl us (i + 1) m fd f1 f2 f3 h2 hm' hf
      refine ⟨g1, g2, g3, ?_, ?_⟩
      · rw [decide_eq_false h, cond_false, inc64 (by omega), e1]
        unfold pickV
        rw [if_neg h]
      · intro b hb
        unfold pickV at hb
        rw [if_neg h] at hb
        exact e2 b hb
/-- the votes that count, from commune k - 1 down -/
def ownL (mo : Int) (vs : List Vote) : Nat → List Vote → List Vote
  | 0, acc => acc
  | k + 1, acc => ownL mo vs k (acc ++ own1 mo (k : Int) vs)
theorem own1_len (mo c : Int) (vs : List Vote) : (own1 mo c vs).length ≤ 1 := by unfold own1; split <;> simp
theorem Votes_L1 (n : Nat) (votes : List Vote) (mo : Int) (kont : List Vote → Option Bool) (hl : votes.length < n) (hl2 : votes.length < 4611686018427387904) : ∀ (k m : Nat) (acc : List Vote), k < m → acc.length + k < 1000000 →
    law40_CouncilVotes_L1 n votes mo kont m ((k : Int) - 1) acc = kont (ownL mo votes k acc)
  | 0, m + 1, acc, _, _ => by
    rw [law40_CouncilVotes_L1_s, show decide ((0 : Int) ≤ ((0 : Nat) : Int) - 1) = false by decide, cond_false]; rfl
  | k + 1, m + 1, acc, hm, ha => by
    obtain ⟨g1, g2, g3, e1, e2⟩ := Votes_L2 n votes mo (k : Int) (fun (found2 : Bool) (f4 : Int) (f5 : Int) (f6 : Bool) =>
      bif found2 then (app 24 acc [(⟨f4, f5, f6⟩ : Vote)]).bind fun l3 => law40_CouncilVotes_L1 n votes mo kont m (isub .i64 (k : Int) 1) l3
      else law40_CouncilVotes_L1 n votes mo kont m (isub .i64 (k : Int) 1) acc) hl2 votes 0 n false 0 0 false rfl hl (fun h => by cases h)
    rw [law40_CouncilVotes_L1_s, show ((k + 1 : Nat) : Int) - 1 = (k : Int) by omega, decide_eq_true (show (0 : Int) ≤ (k : Int) by omega), cond_true]
    refine Eq.trans e1 ?_
    have hsub : isub .i64 (k : Int) 1 = (k : Int) - 1 := isub_i64 (by omega) (by omega)
    show (bif (lastV mo (k : Int) none votes).isSome then _ else _) = _
    have ih := fun acc' h => Votes_L1 n votes mo kont hl hl2 k m acc' (by omega) h
    have hown : ownL mo votes (k + 1) acc = ownL mo votes k (acc ++ own1 mo (k : Int) votes) := rfl
    rw [hown]
    unfold own1
    cases hlv : lastV mo (k : Int) none votes with
    | none =>
      rw [Option.isSome_none, cond_false, hsub, ih acc (by omega), List.append_nil]
    | some b =>
      obtain ⟨r1, r2, r3⟩ := e2 b hlv
      rw [Option.isSome_some, cond_true, r1, r2, r3, app_ok (by simp; omega), Option.bind_some, hsub, ih _ (by simp; omega)]
/-- what is known of the votes that count -/
theorem lastV_own1 (mo c d : Int) (vs : List Vote) (acc : Option Bool) : lastV mo d acc (own1 mo c vs) = if d = c then (match lastV mo c none vs with | some b => some b | none => acc) else acc := by
  unfold own1
  cases h : lastV mo c none vs with
  | none => simp [lastV]
  | some b =>
    show pickV mo d acc ⟨mo, c, b⟩ = _
    unfold pickV
    by_cases hd : d = c
    · rw [if_pos ⟨rfl, hd.symm⟩, if_pos hd]
    · rw [if_neg (fun h => hd h.2.symm), if_neg hd]
theorem lastV_ownL (mo : Int) (vs : List Vote) (d : Int) : ∀ (k : Nat) (acc : List Vote), lastV mo d none (ownL mo vs k acc) = if 0 ≤ d ∧ d < k then (match lastV mo d none vs with | some b => some b | none => lastV mo d none acc) else lastV mo d none acc
  | 0, acc => by rw [if_neg (by omega)]; rfl
  | k + 1, acc => by
    show lastV mo d none (ownL mo vs k (acc ++ own1 mo (k : Int) vs)) = _
    rw [lastV_ownL mo vs d k, lastV_append, lastV_own1]
    by_cases h1 : 0 ≤ d ∧ d < (k : Int)
    · rw [if_pos h1, if_neg (show ¬ d = (k : Int) by omega), if_pos (show 0 ≤ d ∧ d < ((k + 1 : Nat) : Int) by omega)]
    · rw [if_neg h1]
      by_cases h2 : d = (k : Int)
      · rw [if_pos h2, if_pos (show 0 ≤ d ∧ d < ((k + 1 : Nat) : Int) by omega), h2]
      · rw [if_neg h2, if_neg (show ¬ (0 ≤ d ∧ d < ((k + 1 : Nat) : Int)) by omega)]
theorem own_same (mo : Int) (vs : List Vote) (k : Nat) (d : Int) (h0 : 0 ≤ d) (h1 : d < k) : lastV mo d none (ownL mo vs k []) = lastV mo d none vs := by
  rw [lastV_ownL, if_pos ⟨h0, h1⟩]
  cases lastV mo d none vs <;> rfl
theorem ownL_len (mo : Int) (vs : List Vote) : ∀ (k : Nat) (acc : List Vote), (ownL mo vs k acc).length ≤ acc.length + k
  | 0, _ => Nat.le_refl _
  | k + 1, acc => by
    have h1 := ownL_len mo vs k (acc ++ own1 mo (k : Int) vs)
    have h2 := own1_len mo (k : Int) vs
    simp only [List.length_append] at h1
    show (ownL mo vs k (acc ++ own1 mo (k : Int) vs)).length ≤ _
    omega
theorem yesS_congr (f g : Int → Option Bool) : ∀ (ws : List Int) (i : Int), (∀ c, i ≤ c → c < i + ws.length → f c = g c) → yesS f i ws = yesS g i ws ∧ noS f i ws = noS g i ws
  | [], _, _ => ⟨rfl, rfl⟩
  | w :: ws, i, h => by
    have ih := yesS_congr f g ws (i + 1) (fun c h1 h2 => h c (by omega) (by simp only [List.length_cons]; omega))
    have hi := h i (by omega) (by simp only [List.length_cons]; omega)
    simp only [yesS, noS]
    rw [hi, ih.1, ih.2]
    exact ⟨rfl, rfl⟩
theorem countV_own (w : List Int) (vs : List Vote) (mo : Int) : countV w (ownL mo vs w.length []) mo = countV w vs mo := by
  unfold countV
  split
  · have h := yesS_congr (fun c => lastV mo c none (ownL mo vs w.length [])) (fun c => lastV mo c none vs) w 0 (fun c h1 h2 => own_same mo vs w.length c h1 (by omega))
    rw [h.1, h.2]
  · rfl
theorem votes_ev (w : List Int) (votes : List Vote) (mo : Int) : Ev (fun n => law40_CouncilVotes n w votes mo) true := by
  unfold law40_CouncilVotes
  refine Ev.bind sane_ev ?_
  refine or_both ?_
  refine guard fun hV => ?_
  simp only [Bool.or_eq_false_iff, decide_eq_false_iff_not] at hV
  have hw : w.length ≤ 25 := by omega
  have hv : votes.length ≤ 60 := by omega
  have hK : ∀ kont : Nat → List Vote → Option Bool, Ev (fun n => kont n (ownL mo votes w.length [])) true → Ev (fun n => law40_CouncilVotes_L1 n votes mo (kont n) n (isub .i64 (w.length : Int) 1) []) true := by
    intro kont hk
    refine Ev.from 100 (fun n hn => ?_) hk
    have := Votes_L1 n votes mo (kont n) (by omega) (by omega) w.length n [] (by omega) (by simp; omega)
    rw [← isub_i64 (x := (w.length : Int)) (y := 1) (by omega) (by omega)] at this
    exact this
  refine hK _ ?_
  have hlen := ownL_len mo votes w.length []
  simp only [List.length_nil] at hlen
  refine Ev.bind (Count_ev w votes mo (by omega)) ?_
  refine Ev.bind ((Count_ev w (ownL mo votes w.length []) mo (by omega)).eq (countV_own w votes mo)) ?_
  refine and_pure rfl (by simp) (and_pure rfl (by simp) ?_)
  have hp : passV w (ownL mo votes w.length []) mo = passV w votes mo := by unfold passV; rw [countV_own]
  exact Ev.bind (a := true) (Ev.then rfl (Ev.bind (Passes_ev w votes mo (by omega)) (Ev.bind ((Passes_ev w (ownL mo votes w.length []) mo (by omega)).eq hp) ((Ev.pure _).eq (by simp))))) (Ev.pure _)
end Go.Proofs.YtibkigpmkkkaeaaDoor.Cn
