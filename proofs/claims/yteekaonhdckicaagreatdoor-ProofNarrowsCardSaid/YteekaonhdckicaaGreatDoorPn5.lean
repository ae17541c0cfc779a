/- Several texts in one, for ProofNarrows.card: what the theorem leans on. -/
import Derived.Test.YteekaonhdckicaaGreatDoorCards
import Derived.Test.YteekaonhdckicaaGreatDoorTie
import Derived.Test.YteekaonhdckicaaGreatDoorPn4
namespace Go.Proofs.YteekaonhdckicaaGreatDoor.Dp
open Go Go.RowKit Go.Proofs.YteekaonhdckicaaGreatDoor.Rt Go.Proofs Go.Proofs.YteekaonhdckicaaGreatDoor.D
set_option linter.unusedVariables false
set_option maxHeartbeats 4000000
set_option maxRecDepth 100000
def fewF (n : Int) (f : Frac) : Bool := decide ((f.P.Digits.length : Int) ≤ n) && decide ((f.Q.Digits.length : Int) ≤ n)
theorem few_e (f : Frac) (n : Int) : EvF tt 27 [.v (eF f), I n] (B (fewF n f)) := by
  refine evF (eIn Tryz.func27 rfl rfl ?_)
  refine qC rfl (fun h => ?_) (fun h => ?_)
  refine qR rfl ⟨congrArg B ?_, rfl⟩; rotate_left
  refine qR rfl ⟨congrArg B ?_, rfl⟩; rotate_left
  all_goals (simp_all [fewF] <;> omega)
def fewP (x : List Frac) (most d : Int) : Bool := decide ((x.length : Int) ≤ most) && x.all (fewF d)
theorem fewP_e (x : List Frac) (most : Nat) (d : Int) (hm : most < 1000000) : EvF tt 7 [L (fs x), I most, I d] (B (fewP x most d)) := by
  refine evF (eIn Tryz.func7 rfl rfl ?_)
  refine qF x.length (fun z _ => [(7, I z)]) (fun _ _ => []) (fun j (_ : Unit) => j ≤ most + 1 ∧ (x.take j).all (fewF d) = true) () rfl rfl ⟨by omega, rfl⟩ ?_
  rintro j ⟨⟩ hj ⟨hjm, hall⟩ ih
  by_cases hlt : j < x.length
  · have hf := List.getElem?_eq_getElem hlt
    generalize x[j] = f at hf
    refine qT rfl (decide_eq_true (by rw [List.length_map]; omega)) ?_
    by_cases hm : j ≤ most
    · refine qT rfl (decide_eq_true (by omega)) ?_
      refine qXi rfl (by omega) hf ?_
      refine qK rfl (few_e _ _) rfl ?_
      cases he : fewF d f with
      | false =>
        refine qT rfl rfl ?_
        refine qR rfl ⟨congrArg B ?_, rfl⟩; rotate_left
        all_goals clear ih
        unfold fewP
        symm; rw [Bool.and_eq_false_iff]
        exact Or.inr (List.all_eq_false.2 ⟨f, List.mem_of_getElem? hf, by simp [he]⟩)
      | true =>
        refine qN rfl rfl ?_
        refine   qB (ih _ () (next64 (by omega)) hlt ⟨by omega, by rw [take_at hf, List.all_append, hall]; simp [he]⟩) (by kernel_rfl)
    · refine qN rfl (decide_eq_false (by omega)) ?_
      refine qR rfl ⟨congrArg B ?_, rfl⟩; rotate_left
      all_goals clear ih
      unfold fewP
      simp; omega
  · refine qN rfl (decide_eq_false (by rw [List.length_map]; omega)) ?_
    obtain rfl : j = x.length := by omega
    rw [List.take_length] at hall
    refine qR rfl ⟨congrArg B ?_, rfl⟩; rotate_left
    all_goals clear ih
    unfold fewP
    rw [hall]; simp
structure Opt where
  Kind : Int
  Value : Frac
  X : List Frac
  Y : List Frac
  Ray : List Frac
def eOp (o : Opt) : VT := .agg [N o.Kind, N o.Value.P.Sign, .sl (ns o.Value.P.Digits), N o.Value.Q.Sign, .sl (ns o.Value.Q.Digits), .sl (fs o.X), .sl (fs o.Y), .sl (fs o.Ray)]
structure Rng where
  Least : Opt
  Most : Opt
def eRg (r : Rng) : VT := .agg (cellsV (eOp r.Least) ++ cellsV (eOp r.Most))
structure Pck where
  Move : Int
  Material : Int
def ePk (p : Pck) : VT := .agg [N p.Move, N p.Material]
structure Bch where
  Material : Int
  Moves : List Int
def eBt (b : Bch) : VT := .agg [N b.Material, .sl (ns b.Moves)]
def fewO (o : Opt) (n d : Int) : Bool := fewF d o.Value && fewP o.X n d && fewP o.Y n d && fewP o.Ray n d
theorem fewO_e (o : Opt) (n : Nat) (d : Int) (hn : n < 1000000) : EvF tt 50 [.v (eOp o), I n, I d] (B (fewO o n d)) := by
  refine evF (eIn Tryz.func50 rfl rfl ?_)
  unfold fewO
  cases h1 : fewF d o.Value with
  | false =>
    refine qK rfl ((h1 ▸ few_e o.Value d)) rfl ?_
    refine qN rfl rfl ?_
    exact qR rfl ⟨rfl, rfl⟩
  | true =>
    refine qK rfl (h1 ▸ few_e o.Value d) rfl ?_
    refine qT rfl rfl ?_
    cases h2 : fewP o.X n d with
    | false =>
      refine qK rfl ((h2 ▸ fewP_e o.X n d hn)) rfl ?_
      refine qN rfl rfl ?_
      exact qR rfl ⟨rfl, rfl⟩
    | true =>
      refine qK rfl (h2 ▸ fewP_e o.X n d hn) rfl ?_
      refine qT rfl rfl ?_
      cases h3 : fewP o.Y n d with
      | false =>
        refine qK rfl ((h3 ▸ fewP_e o.Y n d hn)) rfl ?_
        refine qN rfl rfl ?_
        exact qR rfl ⟨rfl, rfl⟩
      | true =>
        refine qK rfl (h3 ▸ fewP_e o.Y n d hn) rfl ?_
        refine qT rfl rfl ?_
        refine qK rfl (fewP_e o.Ray n d hn) rfl ?_
        exact qR rfl ⟨rfl, rfl⟩
def sml (e : Evi) (m n : Int) : Bool := decide (e.Materials ≤ n) && decide (e.Households ≤ 6) && decide (e.Scales ≤ 6) && decide (e.Places.length ≤ 12) && decide ((e.Moves.length : Int) ≤ m) && decide (e.Certs.length ≤ 10) && decide (e.Recalls.length ≤ 4) && decide (e.Purities.length ≤ 6)
theorem small14_e (e : Evi) (m n : Int) : EvF tt 49 [.v (eEv e), I m, I n] (B (sml e m n)) := by
  refine evF (eIn Tryz.func49 rfl rfl ?_)
  refine qC rfl (fun h => ?_) (fun h => ?_)
  refine qR rfl ⟨congrArg B ?_, rfl⟩; rotate_left
  refine qC rfl (fun h => ?_) (fun h => ?_)
  refine qR rfl ⟨congrArg B ?_, rfl⟩; rotate_left
  refine qC rfl (fun h => ?_) (fun h => ?_)
  refine qR rfl ⟨congrArg B ?_, rfl⟩; rotate_left
  refine qC rfl (fun h => ?_) (fun h => ?_)
  refine qR rfl ⟨congrArg B ?_, rfl⟩; rotate_left
  refine qC rfl (fun h => ?_) (fun h => ?_)
  refine qC rfl (fun h => ?_) (fun h => ?_)
  refine qC rfl (fun h => ?_) (fun h => ?_)
  refine qR rfl ⟨congrArg B ?_, rfl⟩; rotate_left
  refine qR rfl ⟨congrArg B ?_, rfl⟩; rotate_left
  refine qR rfl ⟨congrArg B ?_, rfl⟩; rotate_left
  refine qR rfl ⟨congrArg B ?_, rfl⟩; rotate_left
  all_goals (unfold sml; rw [Bool.eq_iff_iff]; simp only [Bool.and_eq_true, decide_eq_true_eq, List.length_map, Bool.false_eq_true] at *; first | omega | grind)
def few14 (e : Evi) : Bool := decide (e.Places.length ≤ 110) && decide (e.Moves.length ≤ 210) && decide (e.Certs.length ≤ 110) && decide (e.Recalls.length ≤ 40) && decide (e.Purities.length ≤ 210)
theorem few14_e (e : Evi) : EvF tt 28 [.v (eEv e)] (B (few14 e)) := by
  refine evF (eIn Tryz.func28 rfl rfl ?_)
  refine qC rfl (fun h => ?_) (fun h => ?_)
  refine qC rfl (fun h => ?_) (fun h => ?_)
  refine qC rfl (fun h => ?_) (fun h => ?_)
  refine qC rfl (fun h => ?_) (fun h => ?_)
  refine qR rfl ⟨congrArg B ?_, rfl⟩; rotate_left
  refine qR rfl ⟨congrArg B ?_, rfl⟩; rotate_left
  refine qR rfl ⟨congrArg B ?_, rfl⟩; rotate_left
  refine qR rfl ⟨congrArg B ?_, rfl⟩; rotate_left
  refine qR rfl ⟨congrArg B ?_, rfl⟩; rotate_left
  all_goals (unfold few14; rw [Bool.eq_iff_iff]; simp only [Bool.and_eq_true, decide_eq_true_eq, List.length_map, Bool.false_eq_true] at *; first | omega | grind)
def few17 (e : Evi) (ps : List Pck) (r : Rng) (m n : Int) : Bool := sml e m n && decide (e.Purities.length ≤ 3) && decide (ps.length ≤ 20) && fewO r.Least 60 40 && fewO r.Most 60 40
theorem few17_e (e : Evi) (ps : List Pck) (r : Rng) (m n : Int) : EvF tt 19 [.v (eEv e), L (ps.map ePk), .v (eRg r), I m, I n] (B (few17 e ps r m n)) := by
  have hs := small14_e e m n
  have h1 : EvF tt 50 [.v (eOp r.Least), I 60, I 40] (B (fewO r.Least 60 40)) := fewO_e r.Least 60 40 (by decide)
  have h2 : EvF tt 50 [.v (eOp r.Most), I 60, I 40] (B (fewO r.Most 60 40)) := fewO_e r.Most 60 40 (by decide)
  refine evF (eIn Tryz.func19 rfl rfl ?_)
  refine qK rfl hs rfl ?_
  unfold few17
  cases h3 : sml e m n with
  | false =>
    refine qN rfl rfl ?_
    exact qR rfl ⟨rfl, rfl⟩
  | true =>
    refine qT rfl rfl ?_
    by_cases h4 : e.Purities.length ≤ 3
    · by_cases h5 : ps.length ≤ 20
      · refine qT rfl (decide_eq_true (by first | omega | (simp; done) | (simp; omega))) ?_
        refine qT rfl (decide_eq_true (by first | omega | (simp; done) | (simp; omega))) ?_
        refine qK rfl h1 rfl ?_
        rw [decide_eq_true h4, decide_eq_true h5]
        cases h6 : fewO r.Least 60 40 with
        | false =>
          refine qN rfl rfl ?_
          exact qR rfl ⟨rfl, rfl⟩
        | true =>
          refine qT rfl rfl ?_
          refine qK rfl (h2) rfl ?_
          exact qR rfl ⟨rfl, rfl⟩
      · refine qT rfl (decide_eq_true (by first | omega | (simp; done) | (simp; omega))) ?_
        refine qN rfl (decide_eq_false (by first | omega | (simp; done) | (simp; omega))) ?_
        refine qR rfl ⟨congrArg B ?_, rfl⟩; rotate_left
        all_goals (rw [decide_eq_false h5]; simp)
    · refine qN rfl (decide_eq_false (by first | omega | (simp; done) | (simp; omega))) ?_
      refine qR rfl ⟨congrArg B ?_, rfl⟩; rotate_left
      all_goals (rw [decide_eq_false h4]; simp)
end Go.Proofs.YteekaonhdckicaaGreatDoor.Dp

namespace Go.Proofs.YteekaonhdckicaaGreatDoor.Dp
open Go Go.ChangeShapes Go.WideShapes Go.ChangeAt Go.RowKit Go.Proofs.YteekaonhdckicaaGreatDoor.Rt Go.Proofs Go.Proofs.YteekaonhdckicaaGreatDoor.Wrap
set_option linter.unusedVariables false
abbrev shI : Sh := .int .i64
abbrev shBig : Sh := .st [shI, .sl shI]
abbrev shFrac : Sh := .st [shBig, shBig]
abbrev shPl : Sh := .st [shI, shI, shI]
abbrev shMo : Sh := .st [shI, shI, shI, shI, shI, .bool]
abbrev shCr : Sh := .st [shI, shI, shI, shI, shI, shI]
abbrev shRc : Sh := .st [shI, shI]
abbrev shPu : Sh := .st [shI, shI, shI, shI]
abbrev shEv : Sh := .st [shI, shI, shI, .sl shPl, .sl shMo, .sl shCr, .sl shRc, .sl shPu]
abbrev shBt : Sh := .st [shI, .sl shI]
theorem fit_list {α : Type} {s : Sh} {g : α → VT} (h : ∀ {y}, Fit s y → ∃ a, y = g a) : ∀ {xs : List VT}, (∀ y ∈ xs, Fit s y) → ∃ l : List α, xs = l.map g
  | [], _ => ⟨[], rfl⟩
  | y :: xs, hx => by
    obtain ⟨a, rfl⟩ := h (hx y (List.mem_cons_self ..))
    obtain ⟨l, rfl⟩ := fit_list h fun z hz => hx z (List.mem_cons_of_mem _ hz)
    exact ⟨a :: l, rfl⟩
theorem fit_i {y : VT} (h : Fit shI y) : ∃ z, y = N z := by
  obtain ⟨z, rfl, _⟩ := h
  exact ⟨z, rfl⟩
theorem fit_ns {y : VT} (h : Fit (.sl shI) y) : ∃ l : List Int, y = .sl (ns l) := by
  obtain ⟨xs, rfl, _, h⟩ := h
  obtain ⟨l, rfl⟩ := fit_list fit_i h
  exact ⟨l, rfl⟩
theorem fit_big {y : VT} (h : Fit shBig y) : ∃ b : Big, y = eB b := by
  obtain ⟨_, rfl, x1, r1, rfl, ⟨z1, rfl, _⟩, x2, r2, rfl, h2, rfl⟩ := h
  obtain ⟨l, rfl⟩ := fit_ns h2
  exact ⟨⟨z1, l⟩, rfl⟩
theorem fit_frac {y : VT} (h : Fit shFrac y) : ∃ f : Frac, y = eF f := by
  obtain ⟨_, rfl, x1, r1, rfl, h1, x2, r2, rfl, h2, rfl⟩ := h
  obtain ⟨a, rfl⟩ := fit_big h1
  obtain ⟨b, rfl⟩ := fit_big h2
  exact ⟨⟨a, b⟩, rfl⟩
theorem fit_pl {y : VT} (h : Fit shPl y) : ∃ p : Plc, y = ePl p := by
  obtain ⟨_, rfl, x1, r1, rfl, ⟨z1, rfl, _⟩, x2, r2, rfl, ⟨z2, rfl, _⟩, x3, r3, rfl, ⟨z3, rfl, _⟩, rfl⟩ := h
  exact ⟨⟨z1, z2, z3⟩, rfl⟩
theorem fit_mo {y : VT} (h : Fit shMo y) : ∃ p : Mve, y = eMo p := by
  obtain ⟨_, rfl, x1, r1, rfl, ⟨z1, rfl, _⟩, x2, r2, rfl, ⟨z2, rfl, _⟩, x3, r3, rfl, ⟨z3, rfl, _⟩, x4, r4, rfl, ⟨z4, rfl, _⟩, x5, r5, rfl, ⟨z5, rfl, _⟩, x6, r6, rfl, ⟨z6, rfl⟩, rfl⟩ := h
  exact ⟨⟨z1, z2, z3, z4, z5, z6⟩, rfl⟩
theorem fit_cr {y : VT} (h : Fit shCr y) : ∃ p : Crt, y = eCr p := by
  obtain ⟨_, rfl, x1, r1, rfl, ⟨z1, rfl, _⟩, x2, r2, rfl, ⟨z2, rfl, _⟩, x3, r3, rfl, ⟨z3, rfl, _⟩, x4, r4, rfl, ⟨z4, rfl, _⟩, x5, r5, rfl, ⟨z5, rfl, _⟩, x6, r6, rfl, ⟨z6, rfl, _⟩, rfl⟩ := h
  exact ⟨⟨z1, z2, z3, z4, z5, z6⟩, rfl⟩
theorem fit_rc {y : VT} (h : Fit shRc y) : ∃ p : Rcl, y = eRc p := by
  obtain ⟨_, rfl, x1, r1, rfl, ⟨z1, rfl, _⟩, x2, r2, rfl, ⟨z2, rfl, _⟩, rfl⟩ := h
  exact ⟨⟨z1, z2⟩, rfl⟩
theorem fit_pu {y : VT} (h : Fit shPu y) : ∃ p : Pur, y = ePu p := by
  obtain ⟨_, rfl, x1, r1, rfl, ⟨z1, rfl, _⟩, x2, r2, rfl, ⟨z2, rfl, _⟩, x3, r3, rfl, ⟨z3, rfl, _⟩, x4, r4, rfl, ⟨z4, rfl, _⟩, rfl⟩ := h
  exact ⟨⟨z1, z2, z3, z4⟩, rfl⟩
theorem fit_sl {α : Type} {s : Sh} {g : α → VT} (h : ∀ {y}, Fit s y → ∃ a, y = g a) {y : VT} (hy : Fit (.sl s) y) : ∃ l : List α, y = .sl (l.map g) := by
  obtain ⟨xs, rfl, _, hx⟩ := hy
  obtain ⟨l, rfl⟩ := fit_list h hx
  exact ⟨l, rfl⟩
theorem fit_ev {y : VT} (h : Fit shEv y) : ∃ e : Evi, y = eEv e := by
  obtain ⟨_, rfl, x1, r1, rfl, ⟨z1, rfl, _⟩, x2, r2, rfl, ⟨z2, rfl, _⟩, x3, r3, rfl, ⟨z3, rfl, _⟩, x4, r4, rfl, h4, x5, r5, rfl, h5, x6, r6, rfl, h6, x7, r7, rfl, h7, x8, r8, rfl, h8, rfl⟩ := h
  obtain ⟨l4, rfl⟩ := fit_sl fit_pl h4
  obtain ⟨l5, rfl⟩ := fit_sl fit_mo h5
  obtain ⟨l6, rfl⟩ := fit_sl fit_cr h6
  obtain ⟨l7, rfl⟩ := fit_sl fit_rc h7
  obtain ⟨l8, rfl⟩ := fit_sl fit_pu h8
  exact ⟨⟨z1, z2, z3, l4, l5, l6, l7, l8⟩, rfl⟩
theorem fit_bt {y : VT} (h : Fit shBt y) : ∃ b : Bch, y = eBt b := by
  obtain ⟨_, rfl, x1, r1, rfl, ⟨z1, rfl, _⟩, x2, r2, rfl, h2, rfl⟩ := h
  obtain ⟨l, rfl⟩ := fit_ns h2
  exact ⟨⟨z1, l⟩, rfl⟩
theorem sh_fs : shOk Tryz.prog (.sl shFrac) 22 = true := by kernel_rfl
theorem sh_ev : shOk Tryz.prog shEv 29 = true := by kernel_rfl
theorem sh_bt : shOk Tryz.prog shBt 32 = true := by kernel_rfl
theorem sh_pu : shOk Tryz.prog shPu 49 = true := by kernel_rfl
theorem sh_int : shOk Tryz.prog shI 3 = true := by kernel_rfl
end Go.Proofs.YteekaonhdckicaaGreatDoor.Dp

namespace Go.Proofs.YteekaonhdckicaaGreatDoor.Dp
open Go Go.RowKit Go.Proofs.YteekaonhdckicaaGreatDoor.Rt Go.Proofs Go.Proofs.YteekaonhdckicaaGreatDoor.D
set_option linter.unusedVariables false
set_option maxHeartbeats 4000000
set_option maxRecDepth 100000
theorem index_e (i n : Int) : EvF tt 92 [I i, I n] (B (idx i n)) := by
  refine evF (eIn Tryz.func92 rfl rfl ?_)
  refine qC rfl (fun h => ?_) (fun h => ?_)
  refine qR rfl ⟨congrArg B ?_, rfl⟩; rotate_left
  refine qR rfl ⟨congrArg B ?_, rfl⟩; rotate_left
  all_goals grind [idx]
theorem btw_e (i n m : Int) : EvF tt 93 [I i, I n, I m] (B (btw i n m)) := by
  refine evF (eIn Tryz.func93 rfl rfl ?_)
  refine qC rfl (fun h => ?_) (fun h => ?_)
  refine qR rfl ⟨congrArg B ?_, rfl⟩; rotate_left
  refine qR rfl ⟨congrArg B ?_, rfl⟩; rotate_left
  all_goals grind [btw]
theorem full_e (e : Evi) : EvF tt 44 [.v (eEv e)] (B (fullE e)) := by
  refine evF (eIn Tryz.func44 rfl rfl ?_)
  refine qB ?_ rfl
  iterate 8
    refine qI ?_
    refine qT rfl rfl ?_
    refine qV rfl rfl ?_
    refine qV rfl rfl ?_
    refine qV rfl rfl ?_
    refine qC rfl (fun h => ?_) (fun h => ?_)
    refine qR rfl ⟨congrArg B ?_, rfl⟩; rotate_left
    refine qB ?_ rfl
  refine qI ?_
  refine qN rfl rfl ?_
  refine qR rfl ⟨congrArg B ?_, rfl⟩; rotate_left
  all_goals try simp only [List.length_map] at *
  all_goals grind [fullE]
theorem mov_e (e : Evi) (m : Mve) : EvF tt 46 [.v (eEv e), .v (eMo m)] (B (movR e m)) := by
  refine evF (eIn Tryz.func46 rfl rfl ?_)
  refine qK rfl (index_e _ _) rfl ?_
  refine qC rfl (fun h => ?_) (fun h => ?_)
  refine qR rfl ⟨congrArg B ?_, rfl⟩; rotate_left
  refine qK rfl (index_e _ _) rfl ?_
  refine qC rfl (fun h => ?_) (fun h => ?_)
  refine qR rfl ⟨congrArg B ?_, rfl⟩; rotate_left
  refine qC rfl (fun h => ?_) (fun h => ?_)
  refine qR rfl ⟨congrArg B ?_, rfl⟩; rotate_left
  refine qXm rfl ⟨?_, ?_⟩ fun v hv _ => ?_; rotate_left 2
  refine qC rfl (fun h => ?_) (fun h => ?_)
  refine qR rfl ⟨congrArg B ?_, rfl⟩; rotate_left
  refine qC rfl (fun h => ?_) (fun h => ?_)
  refine qR rfl ⟨congrArg B ?_, rfl⟩; rotate_left
  refine qC rfl (fun h => ?_) (fun h => ?_)
  refine qC rfl (fun h => ?_) (fun h => ?_)
  refine qR rfl ⟨congrArg B ?_, rfl⟩; rotate_left
  refine qXm rfl ⟨?_, ?_⟩ fun v hv _ => ?_; rotate_left 2
  refine qC rfl (fun h => ?_) (fun h => ?_)
  refine qR rfl ⟨congrArg B ?_, rfl⟩; rotate_left
  refine qC rfl (fun h => ?_) (fun h => ?_)
  refine qR rfl ⟨congrArg B ?_, rfl⟩; rotate_left
  refine qK rfl (index_e _ _) rfl ?_
  refine qC rfl (fun h => ?_) (fun h => ?_)
  refine qK rfl (btw_e _ _ _) rfl ?_
  refine qR rfl ⟨congrArg B ?_, rfl⟩; rotate_left
  refine qR rfl ⟨congrArg B ?_, rfl⟩; rotate_left
  refine qXm rfl ⟨?_, ?_⟩ fun v hv _ => ?_; rotate_left 2
  refine qC rfl (fun h => ?_) (fun h => ?_)
  refine qR rfl ⟨congrArg B ?_, rfl⟩; rotate_left
  refine qC rfl (fun h => ?_) (fun h => ?_)
  refine qR rfl ⟨congrArg B ?_, rfl⟩; rotate_left
  refine qK rfl (index_e _ _) rfl ?_
  refine qC rfl (fun h => ?_) (fun h => ?_)
  refine qK rfl (btw_e _ _ _) rfl ?_
  refine qR rfl ⟨congrArg B ?_, rfl⟩; rotate_left
  refine qR rfl ⟨congrArg B ?_, rfl⟩; rotate_left
  all_goals try simp only [List.length_map] at *
  all_goals grind [movR, kindAt, idx]
theorem places_e (e : Evi) (hl : e.Places.length < 1000000) : EvF tt 45 [.v (eEv e)] (B (e.Places.all (plcR e))) := by
  refine evF (eIn Tryz.func45 rfl rfl ?_)
  refine qF e.Places.length (fun z _ => [(8, I z)]) (fun _ _ => []) (fun k (_ : Unit) => e.Places.all (plcR e) = (e.Places.drop k).all (plcR e)) () rfl rfl rfl ?_
  intro k _ hk hJ ih
  refine qXl rfl rfl rfl hk (fun a ha hd hlt => ?_) (fun hd hk => ?_)
  · rw [hd, List.all_cons] at hJ
    refine qK rfl (index_e _ _) rfl ?_
    refine qC rfl (fun h => ?_) (fun h => ?_)
    refine qR rfl ⟨congrArg B ?_, rfl⟩; rotate_left
    refine qC rfl (fun h => ?_) (fun h => ?_)
    refine qK rfl (index_e _ _) rfl ?_
    refine qC rfl (fun h => ?_) (fun h => ?_)
    refine qR rfl ⟨congrArg B ?_, rfl⟩; rotate_left
    refine qK rfl (index_e _ _) rfl ?_
    refine qC rfl (fun h => ?_) (fun h => ?_)
    refine qR rfl ⟨congrArg B ?_, rfl⟩; rotate_left
    refine qB (ih _ () (next64 (by omega)) hlt ?_) (by kernel_rfl); rotate_left
    refine qC rfl (fun h => ?_) (fun h => ?_)
    refine qR rfl ⟨congrArg B ?_, rfl⟩; rotate_left
    refine qC rfl (fun h => ?_) (fun h => ?_)
    refine qR rfl ⟨congrArg B ?_, rfl⟩; rotate_left
    refine qB (ih _ () (next64 (by omega)) hlt ?_) (by kernel_rfl); rotate_left
    all_goals clear ih
    all_goals grind [plcR, idx]
  · rw [hd] at hJ
    exact qR rfl ⟨congrArg B (by rw [hJ]; rfl), rfl⟩
theorem said_e (e : Evi) (hc : e.Certs.length < 1000000) (hr : e.Recalls.length < 1000000) (hp : e.Purities.length < 1000000) : EvF tt 47 [.v (eEv e)] (B (saidR e)) := by
  refine evF (eIn Tryz.func47 rfl rfl ?_)
  refine qF e.Certs.length (fun z _ => [(13, I z)]) (fun _ _ => []) (fun k (_ : Unit) => e.Certs.all (crtR e) = (e.Certs.drop k).all (crtR e)) () rfl rfl rfl ?_
  intro k _ hk hJ ih
  refine qXl rfl rfl rfl hk (fun a ha hd hlt => ?_) (fun hd hk => ?_)
  · rw [hd, List.all_cons] at hJ
    refine qC rfl (fun h => ?_) (fun h => ?_)
    refine qC rfl (fun h => ?_) (fun h => ?_)
    refine qC rfl (fun h => ?_) (fun h => ?_)
    refine qR rfl ⟨congrArg B ?_, rfl⟩; rotate_left
    refine qK rfl (index_e _ _) rfl ?_
    refine qC rfl (fun h => ?_) (fun h => ?_)
    refine qR rfl ⟨congrArg B ?_, rfl⟩; rotate_left
    refine qK rfl (btw_e _ _ _) rfl ?_
    refine qC rfl (fun h => ?_) (fun h => ?_)
    refine qR rfl ⟨congrArg B ?_, rfl⟩; rotate_left
    refine qK rfl (btw_e _ _ _) rfl ?_
    refine qC rfl (fun h => ?_) (fun h => ?_)
    refine qR rfl ⟨congrArg B ?_, rfl⟩; rotate_left
    refine qK rfl (btw_e _ _ _) rfl ?_
    refine qC rfl (fun h => ?_) (fun h => ?_)
    refine qR rfl ⟨congrArg B ?_, rfl⟩; rotate_left
    refine qB (ih _ () (next64 (by omega)) hlt ?_) (by kernel_rfl); rotate_left
    refine qR rfl ⟨congrArg B ?_, rfl⟩; rotate_left
    refine qR rfl ⟨congrArg B ?_, rfl⟩; rotate_left
    all_goals clear ih
    all_goals grind [saidR, crtR, idx, btw]
  rw [hd, List.all_nil] at hJ
  clear ih
  refine qF e.Recalls.length (fun z _ => [(64, I z)]) (fun _ _ => []) (fun k (_ : Unit) => e.Recalls.all (rclR e) = (e.Recalls.drop k).all (rclR e)) () rfl rfl rfl ?_
  intro k _ hk hJ2 ih
  refine qXl rfl rfl rfl hk (fun a ha hd hlt => ?_) (fun hd hk => ?_)
  · rw [hd, List.all_cons] at hJ2
    refine qK rfl (index_e _ _) rfl ?_
    refine qC rfl (fun h => ?_) (fun h => ?_)
    refine qR rfl ⟨congrArg B ?_, rfl⟩; rotate_left
    refine qK rfl (btw_e _ _ _) rfl ?_
    refine qC rfl (fun h => ?_) (fun h => ?_)
    refine qR rfl ⟨congrArg B ?_, rfl⟩; rotate_left
    refine qB (ih _ () (next64 (by omega)) hlt ?_) (by kernel_rfl); rotate_left
    all_goals clear ih
    all_goals grind [saidR, rclR, idx, btw]
  rw [hd, List.all_nil] at hJ2
  clear ih
  refine qF e.Purities.length (fun z _ => [(84, I z)]) (fun _ _ => []) (fun k (_ : Unit) => e.Purities.all (purR e) = (e.Purities.drop k).all (purR e)) () rfl rfl rfl ?_
  intro k _ hk hJ3 ih
  refine qXl rfl rfl rfl hk (fun a ha hd hlt => ?_) (fun hd hk => ?_)
  · rw [hd, List.all_cons] at hJ3
    refine qK rfl (index_e _ _) rfl ?_
    refine qC rfl (fun h => ?_) (fun h => ?_)
    refine qR rfl ⟨congrArg B ?_, rfl⟩; rotate_left
    refine qK rfl (index_e _ _) rfl ?_
    refine qC rfl (fun h => ?_) (fun h => ?_)
    refine qR rfl ⟨congrArg B ?_, rfl⟩; rotate_left
    refine qC rfl (fun h => ?_) (fun h => ?_)
    refine qR rfl ⟨congrArg B ?_, rfl⟩; rotate_left
    refine qC rfl (fun h => ?_) (fun h => ?_)
    refine qR rfl ⟨congrArg B ?_, rfl⟩; rotate_left
    refine qC rfl (fun h => ?_) (fun h => ?_)
    refine qR rfl ⟨congrArg B ?_, rfl⟩; rotate_left
    refine qB (ih _ () (next64 (by omega)) hlt ?_) (by kernel_rfl); rotate_left
    all_goals try simp only [List.length_map] at *
    all_goals clear ih
    all_goals grind [saidR, purR, idx, btw]
  rw [hd, List.all_nil] at hJ3
  exact qR rfl ⟨congrArg B (by unfold saidR; rw [hJ, hJ2, hJ3]; rfl), rfl⟩
theorem flow_e (e : Evi) (hp : e.Places.length < 1000000) (hm : e.Moves.length < 1000000) (hc : e.Certs.length < 1000000) (hr : e.Recalls.length < 1000000) (hq : e.Purities.length < 1000000) : EvF tt 16 [.v (eEv e)] (I (flowC e)) := by
  refine evF (eIn Tryz.func16 rfl rfl ?_)
  refine qK rfl (full_e e) rfl ?_
  refine qC rfl (fun h1 => ?_) (fun h1 => ?_)
  · exact qR rfl ⟨congrArg I (by unfold flowC; rw [if_pos h1]), rfl⟩
  refine qC rfl (fun h => ?_) (fun h => ?_)
  refine qR rfl ⟨congrArg I ?_, rfl⟩; rotate_left
  refine qC rfl (fun h => ?_) (fun h => ?_)
  refine qR rfl ⟨congrArg I ?_, rfl⟩; rotate_left
  refine qC rfl (fun h => ?_) (fun h => ?_)
  refine qR rfl ⟨congrArg I ?_, rfl⟩; rotate_left
  refine qK rfl (places_e e hp) rfl ?_
  refine qC rfl (fun h => ?_) (fun h => ?_)
  refine qR rfl ⟨congrArg I ?_, rfl⟩; rotate_left
  · have hpl : ¬ (e.Materials < 1 ∨ e.Households < 0 ∨ e.Scales < 0 ∨ e.Places.all (plcR e) = false) := by grind
    have hfl : flowC e = if chkM e 0 e.Moves ≠ 0 then chkM e 0 e.Moves else if saidR e = true then 0 else 1 := by
      unfold flowC; rw [if_neg (by simp [h1]), if_neg hpl]
    refine qF e.Moves.length (fun z last => [(31, I z), (3, I last)]) (fun _ _ => []) (fun k last => chkM e 0 e.Moves = chkM e last (e.Moves.drop k)) 0 rfl rfl rfl ?_
    intro k last hk hJ ih
    refine qXl rfl rfl rfl hk (fun a ha hd hlt => ?_) (fun hd hk => ?_)
    · rw [hd, show ∀ l m k, chkM e k (m :: l) = if m.Day < k ∨ 100000 < m.Day then 17 else if movR e m = false then 1 else chkM e m.Day l from fun _ _ _ => rfl] at hJ
      refine qC rfl (fun h => ?_) (fun h => ?_)
      refine qR rfl ⟨congrArg I ?_, rfl⟩; rotate_left
      refine qC rfl (fun h => ?_) (fun h => ?_)
      refine qR rfl ⟨congrArg I ?_, rfl⟩; rotate_left
      refine qK rfl (mov_e e a) rfl ?_
      refine qC rfl (fun h => ?_) (fun h => ?_)
      refine qR rfl ⟨congrArg I ?_, rfl⟩; rotate_left
      refine qB (ih _ a.Day (next64 (by omega)) hlt ?_) (by kernel_rfl); rotate_left
      all_goals (clear ih; grind)
    · rw [hd] at hJ
      have hJ : chkM e 0 e.Moves = 0 := hJ
      refine qK rfl (said_e e hc hr hq) rfl ?_
      refine qC rfl (fun h => ?_) (fun h => ?_)
      refine qR rfl ⟨congrArg I ?_, rfl⟩; rotate_left
      refine qR rfl ⟨congrArg I ?_, rfl⟩; rotate_left
      all_goals (clear ih; grind)
  all_goals grind [flowC]
end Go.Proofs.YteekaonhdckicaaGreatDoor.Dp

namespace Go.Proofs.YteekaonhdckicaaGreatDoor.Dp
open Go Go.RowKit Go.Proofs.YteekaonhdckicaaGreatDoor.Rt Go.Proofs Go.Proofs.YteekaonhdckicaaGreatDoor.D
set_option linter.unusedVariables false
set_option maxHeartbeats 4000000
set_option maxRecDepth 100000
theorem within_e (n m : Int) : EvF tt 270 [I n, I m] (B (btw n 0 m)) := by
  refine evF (eIn Tryz.func270 rfl rfl ?_)
  refine qC rfl (fun h => ?_) (fun h => ?_)
  refine qR rfl ⟨congrArg B ?_, rfl⟩; rotate_left
  refine qR rfl ⟨congrArg B ?_, rfl⟩; rotate_left
  all_goals grind [btw]
theorem cright_e (c : Crt) : EvF tt 303 [.v (eCr c)] (B (crtRight c)) := by
  refine evF (eIn Tryz.func303 rfl rfl ?_)
  refine qC rfl (fun h => ?_) (fun h => ?_)
  refine qC rfl (fun h => ?_) (fun h => ?_)
  refine qC rfl (fun h => ?_) (fun h => ?_)
  refine qK rfl (within_e _ _) rfl ?_
  refine qC rfl (fun h => ?_) (fun h => ?_)
  refine qK rfl (within_e _ _) rfl ?_
  refine qC rfl (fun h => ?_) (fun h => ?_)
  refine qK rfl (within_e _ _) rfl ?_
  refine qC rfl (fun h => ?_) (fun h => ?_)
  refine qK rfl (within_e _ _) rfl ?_
  refine qR rfl ⟨congrArg B ?_, rfl⟩; rotate_left
  refine qR rfl ⟨congrArg B ?_, rfl⟩; rotate_left
  refine qR rfl ⟨congrArg B ?_, rfl⟩; rotate_left
  refine qR rfl ⟨congrArg B ?_, rfl⟩; rotate_left
  refine qR rfl ⟨congrArg B ?_, rfl⟩; rotate_left
  refine qR rfl ⟨congrArg B ?_, rfl⟩; rotate_left
  refine qR rfl ⟨congrArg B ?_, rfl⟩; rotate_left
  all_goals grind [crtRight, btw]
theorem covers_e (c : Crt) (d : Int) : EvF tt 267 [.v (eCr c), I d] (B (covC c d)) := by
  refine evF (eIn Tryz.func267 rfl rfl ?_)
  refine qK rfl (cright_e _) rfl ?_
  refine qC rfl (fun h => ?_) (fun h => ?_)
  refine qC rfl (fun h => ?_) (fun h => ?_)
  refine qR rfl ⟨congrArg B ?_, rfl⟩; rotate_left
  refine qR rfl ⟨congrArg B ?_, rfl⟩; rotate_left
  refine qR rfl ⟨congrArg B ?_, rfl⟩; rotate_left
  all_goals grind [covC]
theorem find_e (cs : List Crt) (sc day : Int) (hl : cs.length < 1000000) : EvF tt 214 [L (cs.map eCr), I sc, I day] (.tup [I (findC cs sc day 0 cs (0, false)).1, B (findC cs sc day 0 cs (0, false)).2]) := by
  refine evF (eIn Tryz.func214 rfl rfl ?_)
  refine qF cs.length (fun z q => [(14, I z), (9, B q.2), (8, I ((q.1 : Nat) : Int))]) (fun _ _ => []) (fun k (q : Nat × Bool) => findC cs sc day 0 cs (0, false) = findC cs sc day k (cs.drop k) q ∧ (q.2 = true → q.1 < cs.length)) (0, false) rfl rfl ⟨rfl, by simp⟩ ?_
  rintro k ⟨best, found⟩ hk ⟨hJ, hb⟩ ih
  refine qXl rfl rfl rfl hk (fun a ha hd hlt => ?_) (fun hd hk => ?_)
  · rw [hd, show ∀ l a k q, findC cs sc day k (a :: l) q = findC cs sc day (k + 1) l (if a.Scale = sc ∧ covC a day = true ∧ (q.2 = false ∨ fromAt cs q.1 ≤ a.From) then (k, true) else q) from fun _ _ _ _ => rfl] at hJ
    refine qC rfl (fun h => ?_) (fun h => ?_)
    refine qK rfl (covers_e _ _) rfl ?_
    refine qC rfl (fun h => ?_) (fun h => ?_)
    refine qC rfl (fun h => ?_) (fun h => ?_)
    refine qE rfl (by kernel_rfl) (by kernel_rfl) ?_
    refine qB (ih _ (_, _) (next64 (by omega)) hlt ?_) rfl; rotate_left
    refine qXm rfl ⟨?_, ?_⟩ fun v hv _ => ?_; rotate_left 2
    refine qE rfl (by kernel_rfl) (by kernel_rfl) ?_
    refine qC rfl (fun h => ?_) (fun h => ?_)
    refine qB (ih _ (_, _) (next64 (by omega)) hlt ?_) rfl; rotate_left
    refine qB (ih _ (_, _) (next64 (by omega)) hlt ?_) rfl; rotate_left
    refine qE rfl (by kernel_rfl) (by kernel_rfl) ?_
    refine qB (ih _ (_, _) (next64 (by omega)) hlt ?_) rfl; rotate_left
    refine qE rfl (by kernel_rfl) (by kernel_rfl) ?_
    refine qB (ih _ (_, _) (next64 (by omega)) hlt ?_) rfl; rotate_left
    all_goals clear ih
    all_goals grind [fromAt]
  · rw [hd] at hJ
    rw [hJ]
    exact qR rfl ⟨rfl, rfl⟩
abbrev rcH (d : Bool) (sc day : Int) : DH := [⟨0, 0, false, d, false, .box 3 [I sc]⟩, ⟨0, 0, false, d, false, .box 3 [I day]⟩]
theorem rc1_e (r : Rcl) (sc day : Int) : EvH tt 269 [.v (eRc r), .bp 0 0, .bp 1 0] (rcH false sc day) (B (decide (r.Scale = sc) && decide (r.Since ≤ day))) (rcH false sc day) := by
  refine evF (eInH 2 Tryz.func269 rfl rfl rfl ?_)
  refine qC rfl (fun h => ?_) (fun h => ?_)
  refine qR rfl ⟨congrArg B ?_, rfl⟩; rotate_left
  refine qR rfl ⟨congrArg B ?_, rfl⟩; rotate_left
  all_goals grind
theorem rcIdx_e (rs : List Rcl) (sc day : Int) (hl : rs.length < 1000000) : ∃ z : Int, (0 ≤ z ↔ rcld rs sc day = true) ∧ EvH tt 304 [L (rs.map eRc), .clo 269 [] [.bp 0 0, .bp 1 0]] (rcH false sc day) (I z) (rcH true sc day) := by
  refine evX (en := I) (eInH 2 Tryz.func304 rfl rfl rfl ?_)
  refine qF rs.length (fun z _ => [(8, I z)]) (fun _ _ => []) (fun k (_ : Unit) => rcld rs sc day = rcld (rs.drop k) sc day) () rfl rfl rfl ?_
  intro k _ hk hJ ih
  have hJ : rcld rs sc day = rcld (rs.drop k) sc day := hJ
  refine qXl rfl rfl rfl hk (fun a ha hd hlt => ?_) (fun hd hk => ?_)
  · rw [hd, show rcld (a :: rs.drop (k + 1)) sc day = ((decide (a.Scale = sc) && decide (a.Since ≤ day)) || rcld (rs.drop (k + 1)) sc day) from rfl] at hJ
    refine qK rfl (rc1_e a sc day) rfl ?_
    refine qC rfl (fun h => ?_) (fun h => ?_)
    refine qR rfl ?_; rotate_left
    refine qB (ih _ () (next64 (by omega)) hlt ?_) (by kernel_rfl); rotate_left
    all_goals clear ih
    · exact ⟨rfl, _, by grind, rfl⟩
    · grind
  · rw [hd] at hJ
    refine qR rfl ⟨rfl, _, ?_, rfl⟩
    rw [hJ]
    simp [rcld]
theorem recalled_e (rs : List Rcl) (sc day : Int) (hl : rs.length < 1000000) : EvF tt 215 [L (rs.map eRc), I sc, I day] (B (rcld rs sc day)) := by
  obtain ⟨z, hz, hi⟩ := rcIdx_e rs sc day hl
  have hc : EvH tt 268 [L (rs.map eRc), .clo 269 [] [.bp 0 0, .bp 1 0]] (rcH false sc day) (B (rcld rs sc day)) (rcH true sc day) := by
    refine evF (eInH 2 Tryz.func268 rfl rfl rfl ?_)
    refine qK rfl (hi) rfl ?_
    refine qR rfl ⟨congrArg B ?_, rfl⟩; rotate_left
    all_goals grind
  refine evF (eIn Tryz.func215 rfl rfl ?_)
  refine qK rfl (hc) rfl ?_
  exact qR rfl ⟨rfl, rfl⟩
theorem mul_rng {a b A C : Int} (h0 : 0 ≤ a) (h1 : a ≤ A) (h2 : 0 ≤ b) (h3 : b ≤ C) : 0 ≤ a * b ∧ a * b ≤ A * C :=
  ⟨Int.mul_nonneg h0 h2, Int.mul_le_mul h1 h3 h2 (by omega)⟩
theorem smF_int {x : Int} (h : x.natAbs < 18446744073709551616) : SmF 4 (x : Rat) := by
  refine ⟨by rw [Rat.num_intCast]; exact sm_of_len (len64 h), ?_⟩
  rw [Rat.den_intCast]
  exact sm_of_len (len64 (u := 1) (by decide))
theorem smF_err {c : Crt} {reading day : Int} (h : covC c day = true ∧ btw reading 0 1099511627776 = true) : SmF 9 (errC c reading day) := by
  simp only [covC, crtRight, btw, Bool.and_eq_true, decide_eq_true_eq] at h
  have h1 := mul_rng (a := c.PerMille) (b := reading) (A := 1000) (C := 1099511627776) (by omega) (by omega) (by omega) (by omega)
  have h2 := mul_rng (a := c.Drift) (b := day - c.From) (A := 10000000) (C := 100000) (by omega) (by omega) (by omega) (by omega)
  unfold errC
  exact ((SmF_divInt (k := 4) (sm_of_len (len64 (by omega))) (sm_of_len (len64 (by decide))) (by decide)).add (smF_int (by omega))).mono (by omega)
theorem error_e {c : Crt} {reading day : Int} (h : covC c day = true ∧ btw reading 0 1099511627776 = true) : EvF tt 216 [.v (eCr c), I reading, I day] (.tup [.v (eF (toF (errC c reading day))), B true]) := by
  have hh := h
  simp only [covC, crtRight, btw, Bool.and_eq_true, decide_eq_true_eq] at hh
  have h1 := mul_rng (a := c.PerMille) (b := reading) (A := 1000) (C := 1099511627776) (by omega) (by omega) (by omega) (by omega)
  have h2 := mul_rng (a := c.Drift) (b := day - c.From) (A := 10000000) (C := 100000) (by omega) (by omega) (by omega) (by omega)
  have hof : EvF tt 26 [I (imul .i64 c.PerMille reading), I 1000] (.tup [.v (eF (toF (Rat.divInt (c.PerMille * reading) 1000))), I 0]) := by
    rw [imul_i64 (by omega) (by omega)]; exact fof_e (by omega) (by omega) (by decide) (by decide) (by decide)
  have hin : EvF tt 18 [I (iadd .i64 c.Grams (imul .i64 c.Drift (isub .i64 day c.From)))] (.v (eF (toF ((c.Grams + c.Drift * (day - c.From) : Int) : Rat)))) := by
    rw [isub_i64 (by omega) (by omega), imul_i64 (by omega) (by omega), iadd_i64 (by omega) (by omega)]; exact fint_e (by omega) (by omega)
  have had := fadd_e (SmF_divInt (p := c.PerMille * reading) (q := 1000) (k := 4) (sm_of_len (len64 (by omega))) (sm_of_len (len64 (by decide))) (by decide)) (smF_int (x := c.Grams + c.Drift * (day - c.From)) (by omega)) (by decide)
  refine evF (eIn Tryz.func216 rfl rfl ?_)
  refine qK rfl (covers_e _ _) rfl ?_
  refine qC rfl (fun h => ?_) (fun h => ?_)
  refine qR rfl ⟨?_, rfl⟩; rotate_left
  refine qK rfl (within_e _ _) rfl ?_
  refine qC rfl (fun h => ?_) (fun h => ?_)
  refine qR rfl ⟨?_, rfl⟩; rotate_left
  refine qK rfl (hof) rfl ?_
  refine qK rfl (hin) rfl ?_
  refine qK rfl (had) rfl ?_
  refine qE rfl (by kernel_rfl) (by kernel_rfl) ?_
  exact qR rfl ⟨rfl, rfl⟩
  all_goals grind
theorem error_n {c : Crt} {reading day : Int} (h : ¬ (covC c day = true ∧ btw reading 0 1099511627776 = true)) : EvF tt 216 [.v (eCr c), I reading, I day] (.tup [.v (eF zeroF), B false]) := by
  refine evF (eIn Tryz.func216 rfl rfl ?_)
  refine qK rfl (covers_e _ _) rfl ?_
  refine qC rfl (fun h1 => ?_) (fun h1 => ?_)
  · exact qR rfl ⟨rfl, rfl⟩
  refine qK rfl (within_e _ _) rfl ?_
  refine qC rfl (fun h2 => ?_) (fun h2 => ?_)
  · exact qR rfl ⟨rfl, rfl⟩
  exact absurd ⟨by grind, by grind⟩ h
theorem interval_e (e : Evi) (m : Mve) (hc : e.Certs.length < 1000000) (hr : e.Recalls.length < 1000000) : EvF tt 157 [L (e.Certs.map eCr), L (e.Recalls.map eRc), I m.Scale, I m.Reading, I m.Day] (match itvl e m with
    | some (lo, hi) => .tup [.v (eF (toF lo)), .v (eF (toF hi)), B true]
    | none => .tup [.v (eF zeroF), .v (eF zeroF), B false]) := by
  refine evF (eIn Tryz.func157 rfl rfl ?_)
  refine qK rfl (find_e e.Certs m.Scale m.Day hc) rfl ?_
  have hrec := recalled_e e.Recalls m.Scale m.Day hr
  have hb : ∀ (l : List Crt) (i : Nat) (s : Nat × Bool), (s.2 = true → s.1 < e.Certs.length) → e.Certs.drop i = l → (findC e.Certs m.Scale m.Day i l s).2 = true → (findC e.Certs m.Scale m.Day i l s).1 < e.Certs.length := by
    intro l
    induction l with
    | nil => intro i s h1 _ h2; exact h1 h2
    | cons c l ih =>
      intro i s h1 h2 h3
      have hlt : i < e.Certs.length := by
        rcases Nat.lt_or_ge i e.Certs.length with h | h
        · exact h
        · rw [List.drop_eq_nil_of_le h] at h2; cases h2
      refine ih (i + 1) _ ?_ ?_ h3
      · split
        · intro _; exact hlt
        · exact h1
      · rw [← List.drop_drop, h2]; rfl
  cases hf : findC e.Certs m.Scale m.Day 0 e.Certs (0, false) with
  | mk best found =>
    have hb := hb e.Certs 0 (0, false) (by simp) rfl
    rw [hf] at hb
    unfold itvl
    rw [hf]
    cases found with
    | false =>
      refine qT rfl rfl ?_
      exact qR rfl ⟨rfl, rfl⟩
    | true =>
      have hlt : best < e.Certs.length := hb rfl
      have hat := List.getElem?_eq_getElem hlt
      generalize e.Certs[best] = c at hat
      dsimp only
      rw [hat]
      by_cases hrc : rcld e.Recalls m.Scale m.Day = true
      · rw [if_pos hrc]
        refine qN rfl rfl ?_
        refine qK rfl hrec rfl ?_
        refine qT rfl hrc ?_
        exact qR rfl ⟨rfl, rfl⟩
      rw [if_neg hrc]
      have hrc : rcld e.Recalls m.Scale m.Day = false := by simpa using hrc
      rw [hrc] at hrec
      dsimp only
      by_cases hcv : covC c m.Day = true ∧ btw m.Reading 0 1099511627776 = true
      · rw [if_pos hcv]
        have hr := btw_iff.1 hcv.2
        have her := error_e hcv
        have hse := smF_err hcv
        have hi := fint_e (x := m.Reading) (by omega) (by omega)
        have hsi := smF_int (x := m.Reading) (by omega)
        have hsub := fsub_e hsi hse (by decide)
        have hadd := fadd_e hsi hse (by decide)
        have hs2 := hsi.sub hse
        have h0 := fint_e (x := 0) (by decide) (by decide)
        have hmx := fmax_e hs2 (smF_int (x := 0) (by decide)) (by decide)
        refine qN rfl rfl ?_
        refine qK rfl hrec rfl ?_
        refine qN rfl rfl ?_
        refine qXi rfl (by omega) hat ?_
        refine qK rfl (her) rfl ?_
        refine qN rfl rfl ?_
        refine qK rfl (hi) rfl ?_
        refine qK rfl (hsub) rfl ?_
        refine qK rfl (hadd) rfl ?_
        refine qK rfl (h0) rfl ?_
        refine qK rfl (hmx) rfl ?_
        refine qE rfl (by kernel_rfl) (by kernel_rfl) ?_
        refine qE rfl (by kernel_rfl) (by kernel_rfl) ?_
        exact qR rfl ⟨rfl, rfl⟩
      · rw [if_neg hcv]
        have her := error_n hcv
        refine qN rfl rfl ?_
        refine qK rfl hrec rfl ?_
        refine qN rfl rfl ?_
        refine qXi rfl (by omega) hat ?_
        refine qK rfl (her) rfl ?_
        refine qT rfl rfl ?_
        exact qR rfl ⟨rfl, rfl⟩
end Go.Proofs.YteekaonhdckicaaGreatDoor.Dp

namespace Go.Proofs.YteekaonhdckicaaGreatDoor.Dp
open Go Go.RowKit Go.Proofs.YteekaonhdckicaaGreatDoor.Rt Go.Proofs Go.Proofs.YteekaonhdckicaaGreatDoor.D
set_option linter.unusedVariables false
set_option maxHeartbeats 4000000
set_option maxRecDepth 100000
theorem lslMap {α : Type} (g : α → VT) {q : Nat} (hg : ∀ x, cellN (g x) = q) (l : List α) {z : Int} (k : Nat) (hz : z = k) (hk : k ≤ l.length) {q' : Nat} (hq : q' = q) : lslQ q' (l.map g) 0 z = some ((l.take k).map g) := by
  subst hz hq
  unfold lslQ lsl
  rw [szOk_map hg]
  dsimp only
  rw [if_pos ⟨by omega, by omega, by rw [List.length_map]; omega⟩, Int.toNat_natCast, ← List.map_take]
  rfl
abbrev mkB (e : Evi) : List DV := [I e.Materials, I e.Households, I e.Scales, L (e.Places.map ePl), L (e.Moves.map eMo), L (e.Certs.map eCr), L (e.Recalls.map eRc), L (e.Purities.map ePu), .row 1 0, .row 2 0]
abbrev rwL (l : List (Rw × Org)) : List VT := l.map fun p => eRw p.1
abbrev orL (l : List (Rw × Org)) : List VT := l.map fun p => eOr p.2
abbrev mkH (e : Evi) (d b a : Bool) (l : List (Rw × Org)) : DH := [⟨0, 0, false, d, false, .box 98 (mkB e)⟩, ⟨0, 0, false, b, a, .row 214 6 (rwL l)⟩, ⟨0, 0, false, b, a, .row 58 4 (orL l)⟩]
theorem mvar_e (e : Evi) (l : List (Rw × Org)) (mv mat : Int) (hm : 0 ≤ e.Materials ∧ e.Materials ≤ 6) (h1 : 0 ≤ mv ∧ mv ≤ 1000000) (h2 : 0 ≤ mat ∧ mat ≤ 10) : EvH tt 155 [.bp 0 0, I mv, I mat] (mkH e false false false l) (I (mv * e.Materials + mat)) (mkH e false false false l) := by
  have hr := mul_rng h1.1 h1.2 hm.1 hm.2
  rw [← iadd_i64 (by omega) (by omega), ← imul_i64 (by omega) (by omega)]
  refine evF (eInH 3 Tryz.func155 rfl rfl rfl ?_)
  exact qR rfl ⟨rfl, rfl⟩
theorem madd_e (e : Evi) (l : List (Rw × Org)) (terms : List Trm) (kind : Int) (v : Rat) (o : Org) (hl : l.length < 1000000) : EvH tt 156 [.bp 0 0, L (terms.map eTm), I kind, .v (eF (toF v)), .v (eOr o)] (mkH e false false false l) (.tup []) (mkH e true true true (l ++ [(⟨terms, kind, v⟩, o)])) := by
  refine evF (eInH 3 Tryz.func156 rfl rfl rfl ?_)
  refine qA 96 rfl rfl ?_ ?_ (fun _ => rfl); rotate_left
  refine qE rfl (by kernel_rfl) (by kernel_rfl) ?_
  refine qA 32 rfl rfl ?_ ?_ (fun _ => rfl); rotate_left
  refine qE rfl (by kernel_rfl) (by kernel_rfl) ?_
  refine qR rfl ?_; rotate_left
  · simp; omega
  · simp; omega
  · refine ⟨rfl, ?_⟩
    unfold mkH rwL orL
    rw [List.map_append, List.map_append]
    rfl
theorem stk_step {e : Evi} {x y : Mve} {k j : Nat} {L : List Mve} (hy : L[j]? = some y) : ((zipI 0 (L.take (j + 1))).filterMap (stkT1 e x k)).map eTm = ((zipI 0 (L.take j)).filterMap (stkT1 e x k)).map eTm ++ ((stkT1 e x k (j, y)).toList.map eTm) := by
  rw [zipI_take _ 0 j y hy, List.filterMap_append, List.map_append, Nat.zero_add]
  cases h : stkT1 e x k (j, y) <;> simp [h]
theorem stock_e (e : Evi) (l : List (Rw × Org)) (i : Nat) (x : Mve) (hx : e.Moves[i]? = some x) (hm : 1 ≤ e.Materials ∧ e.Materials ≤ 6) (hl : e.Moves.length < 1000000) (hll : l.length < 100000) : EvH tt 89 [.bp 0 0, I i] (mkH e false false false l) (.tup []) (mkH e true true true (l ++ (List.range e.Materials.toNat).map fun mat => (stkR e i x mat, (⟨0, i, mat, -1⟩ : Org)))) := by
  refine evF (eInH 3 Tryz.func89 rfl rfl rfl ?_)
  refine qXi rfl (by omega) hx ?_
  have h0 : EvF tt 18 [I 0] (.v (eF (toF 0))) := fint_e (x := 0) (by decide) (by decide)
  refine qC rfl (fun hAll => ?_) (fun hAll => ?_)
  all_goals
    refine qFa e.Materials.toNat (fun z _ => [(26, I z)]) (fun _ q => [(1, .row 214 6 (rwL q.1)), (2, .row 58 4 (orL q.1))]) (fun q => [(1, q.2), (2, q.2)]) (fun k q => (q.1 = l ++ (List.range k).map fun mat => (stkR e i x mat, (⟨0, i, mat, -1⟩ : Org))) ∧ (q.2 = false → k = 0)) (l, false) rfl rfl ⟨by simp, fun _ => rfl⟩ ?_
    rintro k ⟨q, b⟩ hk ⟨hq, hb⟩ ih
    cases b
    all_goals
      have hq : q = l ++ (List.range k).map fun mat => (stkR e i x mat, (⟨0, i, mat, -1⟩ : Org)) := hq
      by_cases hlt : (k : Int) < e.Materials
      · refine qT rfl (decide_eq_true hlt) ?_
        have hi := (List.getElem?_eq_some_iff.1 hx).1
        refine qV rfl (lslMap eMo (q := 6) (fun _ => rfl) e.Moves (i + 1) (next64 (by omega)) (by omega) rfl) ?_
        have hk6 : k ≤ 6 := by omega
        have hlt' : k < e.Materials.toNat := by omega
        have hql : q.length ≤ 100006 := by rw [hq]; simp; omega
        have htl : (e.Moves.take (i + 1)).length ≤ 1000000 := by rw [List.length_take]; omega
        refine qF (e.Moves.take (i + 1)).length (fun z _ => [(38, I z)]) (fun _ ts => [(3, .row 143 5 ts)]) (fun j ts => ts = ((zipI 0 ((e.Moves.take (i + 1)).take j)).filterMap (stkT1 e x k)).map eTm ∧ ts.length ≤ j) [] rfl rfl ⟨rfl, Nat.le_refl _⟩ ?_
        rintro j ts hj ⟨hts, htn⟩ ih2
        have hts : ts = ((zipI 0 ((e.Moves.take (i + 1)).take j)).filterMap (stkT1 e x k)).map eTm := hts
        have htn : ts.length ≤ j := htn
        refine qXl rfl rfl rfl hj (fun y hy hd hjl => ?_) (fun hd hj => ?_)
        · have hv := mvar_e e q j k (by omega) (by omega) (by omega)
          have hi1 := fint_e (x := 1) (by decide) (by decide)
          have hi2 := fint_e (x := -1) (by decide) (by decide)
          refine qC rfl (fun h => ?_) (fun h => ?_)
          refine qT rfl rfl ?_
          refine qK rfl (hv) rfl ?_
          refine qK rfl (hi2) rfl ?_
          refine qA 72 rfl rfl ?_ ?_; rotate_left
          refine qB (ih2 _ _ (next64 (by omega)) hjl ?_) rfl; rotate_left
          refine qC rfl (fun h => ?_) (fun h => ?_)
          refine qT rfl rfl ?_
          refine qK rfl (hv) rfl ?_
          refine qK rfl (hi1) rfl ?_
          refine qA 72 rfl rfl ?_ ?_; rotate_left
          refine qB (ih2 _ _ (next64 (by omega)) hjl ?_) rfl; rotate_left
          refine qN rfl rfl ?_
          refine qB (ih2 _ _ (next64 (by omega)) hjl ?_) rfl; rotate_left
          all_goals clear ih ih2
          · simp; omega
          · refine ⟨?_, by simp; omega⟩
            rw [stk_step hy, ← hts]
            unfold stkT1
            rw [if_pos h]; rfl
          · simp; omega
          · rename_i h'
            refine ⟨?_, by simp; omega⟩
            rw [stk_step hy, ← hts]
            unfold stkT1
            rw [if_neg h', if_pos h]; rfl
          · rename_i h'
            refine ⟨?_, by omega⟩
            rw [stk_step hy, ← hts]
            unfold stkT1
            rw [if_neg h', if_neg h]; simp
        · rw [hj, List.take_length] at hts
          subst hts
          refine qK rfl (h0) rfl ?_
          refine qK rfl (madd_e e q ((zipI 0 (e.Moves.take (i + 1))).filterMap (stkT1 e x k)) _ 0 ⟨0, i, k, -1⟩ (by omega)) rfl ?_
          refine qB (ih _ (_, true) (next64 (by omega)) (by omega) ?_) rfl; rotate_left
          clear ih ih2
          refine ⟨?_, fun h => by cases h⟩
          show q ++ [_] = _
          rw [hq, List.range_succ, List.map_append, ← List.append_assoc]
          simp [stkR, hAll]
      · refine qN rfl (decide_eq_false hlt) ?_
        first
          | (exfalso; have := hb rfl; omega)
          | (obtain rfl : k = e.Materials.toNat := by omega
             subst hq
             exact qR rfl ⟨rfl, rfl⟩)
end Go.Proofs.YteekaonhdckicaaGreatDoor.Dp

namespace Go.Proofs.YteekaonhdckicaaGreatDoor.Dp
open Go Go.RowKit Go.Proofs.YteekaonhdckicaaGreatDoor.Rt Go.Proofs Go.Proofs.YteekaonhdckicaaGreatDoor.D
set_option linter.unusedVariables false
set_option maxHeartbeats 4000000
set_option maxRecDepth 100000
theorem sum_step {e : Evi} {i k : Nat} {by' own more : Int} : ((List.range (k + 1)).filterMap (sumT1 e i by' own more)).map eTm = ((List.range k).filterMap (sumT1 e i by' own more)).map eTm ++ ((sumT1 e i by' own more k).toList.map eTm) := by
  rw [List.range_succ, List.filterMap_append, List.map_append]
  cases h : sumT1 e i by' own more k <;> simp [h]
theorem msum_e (e : Evi) (l : List (Rw × Org)) (i : Nat) (by' own more : Int) (hm : 0 ≤ e.Materials ∧ e.Materials ≤ 6) (hi : i < 1000000) (h1 : -1000000 ≤ by' ∧ by' ≤ 1000000) (h2 : -1000000 ≤ more ∧ more ≤ 1000000) : EvH tt 158 [.bp 0 0, I i, I by', I own, I more] (mkH e false false false l) (L ((sumT e i by' own more).map eTm)) (mkH e true true false l) := by
  refine evF (eInH 3 Tryz.func158 rfl rfl rfl ?_)
  refine qF e.Materials.toNat (fun z _ => [(19, I z)]) (fun _ ts => [(3, .row 143 5 ts)]) (fun k ts => ts = ((List.range k).filterMap (sumT1 e i by' own more)).map eTm ∧ ts.length ≤ k) [] rfl rfl ⟨rfl, Nat.le_refl _⟩ ?_
  rintro k ts hk ⟨hts, htn⟩ ih
  have hts : ts = ((List.range k).filterMap (sumT1 e i by' own more)).map eTm := hts
  have htn : ts.length ≤ k := htn
  by_cases hlt : (k : Int) < e.Materials
  · refine qT rfl (decide_eq_true hlt) ?_
    have hv := mvar_e e l i k (by omega) (by omega) (by omega)
    have hc1 : EvF tt 18 [I (iadd .i64 by' more)] (.v (eF (toF ((by' + more : Int) : Rat)))) := by rw [iadd_i64 (by omega) (by omega)]; exact fint_e (by omega) (by omega)
    have hc2 := fint_e (x := by') (by omega) (by omega)
    have had : iadd .i64 by' more = by' + more := iadd_i64 (by omega) (by omega)
    refine qC rfl (fun h => ?_) (fun h => ?_)
    refine qC rfl (fun h => ?_) (fun h => ?_)
    refine qK rfl (hv) rfl ?_
    refine qK rfl (hc1) rfl ?_
    refine qA 72 rfl rfl ?_ ?_; rotate_left
    refine qB (ih _ _ (next64 (by omega)) (by omega) ?_) rfl; rotate_left
    refine qB (ih _ _ (next64 (by omega)) (by omega) ?_) rfl; rotate_left
    refine qC rfl (fun h => ?_) (fun h => ?_)
    refine qK rfl (hv) rfl ?_
    refine qK rfl (hc2) rfl ?_
    refine qA 72 rfl rfl ?_ ?_; rotate_left
    refine qB (ih _ _ (next64 (by omega)) (by omega) ?_) rfl; rotate_left
    refine qB (ih _ _ (next64 (by omega)) (by omega) ?_) rfl; rotate_left
    all_goals clear ih
    · simp; omega
    · rename_i h'
      rw [had] at h
      refine ⟨?_, by simp; omega⟩
      rw [sum_step, ← hts]; simp only [sumT1]; rw [if_pos h', if_neg h]; rfl
    · rename_i h'
      rw [had] at h
      refine ⟨?_, by omega⟩
      rw [sum_step, ← hts]; simp only [sumT1]; rw [if_pos h', if_pos (Classical.not_not.1 h)]; simp
    · simp; omega
    · rename_i h'
      refine ⟨?_, by simp; omega⟩
      rw [sum_step, ← hts]; simp only [sumT1]; rw [if_neg h', if_neg h]; rfl
    · rename_i h'
      refine ⟨?_, by omega⟩
      rw [sum_step, ← hts]; simp only [sumT1]; rw [if_neg h', if_pos (Classical.not_not.1 h)]; simp
  · refine qN rfl (decide_eq_false hlt) ?_
    obtain rfl : k = e.Materials.toNat := by omega
    subst hts
    exact qR rfl ⟨rfl, rfl⟩
theorem weight_0 (e : Evi) (l : List (Rw × Org)) (i : Nat) (x : Mve) (hx : e.Moves[i]? = some x) (hw : x.Scale = -1 ∨ itvl e x = none) (hl : e.Moves.length < 1000000) (hc : e.Certs.length < 1000000) (hr : e.Recalls.length < 1000000) : EvH tt 90 [.bp 0 0, I i] (mkH e false false false l) (.tup []) (mkH e false false false l) := by
  refine evF (eInH 3 Tryz.func90 rfl rfl rfl ?_)
  refine qXi rfl (by omega) hx ?_
  have hi := interval_e e x hc hr
  by_cases hs : x.Scale = -1
  · refine qT rfl (beq_iff_eq.2 hs) ?_
    exact qR rfl ⟨rfl, rfl⟩
  · refine qN rfl (beq_eq_false_iff_ne.2 hs) ?_
    rw [hw.resolve_left hs] at hi
    refine qK rfl (hi) rfl ?_
    refine qE rfl (by kernel_rfl) (by kernel_rfl) ?_
    refine qN rfl rfl ?_
    exact qR rfl ⟨rfl, rfl⟩
theorem weight_1 (e : Evi) (l : List (Rw × Org)) (i : Nat) (x : Mve) {lo hi : Rat} (hx : e.Moves[i]? = some x) (hs : x.Scale ≠ -1) (hw : itvl e x = some (lo, hi)) (hm : 0 ≤ e.Materials ∧ e.Materials ≤ 6) (hll : l.length < 100000) (hl : e.Moves.length < 1000000) (hc : e.Certs.length < 1000000) (hr : e.Recalls.length < 1000000) : EvH tt 90 [.bp 0 0, I i] (mkH e false false false l) (.tup []) (mkH e true true true (l ++ wgts e i x)) := by
  have hw2 : l ++ wgts e i x = l ++ [(⟨sumT e i 1 (-1) 0, 0, lo⟩, ⟨1, i, -1, -1⟩)] ++ [(⟨sumT e i 1 (-1) 0, 1, hi⟩, ⟨2, i, -1, -1⟩)] := by
    unfold wgts; rw [if_neg hs, hw, List.append_assoc]; rfl
  rw [hw2]
  have hlt := (List.getElem?_eq_some_iff.1 hx).1
  refine evF (eInH 3 Tryz.func90 rfl rfl rfl ?_)
  refine qXi rfl (by omega) hx ?_
  have hi := interval_e e x hc hr
  rw [hw] at hi
  refine qN rfl (beq_eq_false_iff_ne.2 hs) ?_
  refine qK rfl (hi) rfl ?_
  refine qE rfl (by kernel_rfl) (by kernel_rfl) ?_
  refine qT rfl rfl ?_
  refine qK rfl (msum_e e _ i 1 (-1) 0 hm (by omega) (by omega) (by omega)) rfl ?_
  refine qK rfl (madd_e e _ (sumT e i 1 (-1) 0) _ _ ⟨_, _, _, _⟩   (by     first     | omega     | (simp; omega))) rfl ?_
  refine qE rfl (by kernel_rfl) (by kernel_rfl) ?_
  refine qK rfl (msum_e e _ i 1 (-1) 0 hm (by omega) (by omega) (by omega)) rfl ?_
  refine qK rfl (madd_e e _ (sumT e i 1 (-1) 0) _ _ ⟨_, _, _, _⟩   (by     first     | omega     | (simp; omega))) rfl ?_
  refine qE rfl (by kernel_rfl) (by kernel_rfl) ?_
  exact qR rfl ⟨rfl, rfl⟩
theorem evXH {P : Program} {T : Ty P} {α : Type} {R : α → Prop} {en : α → DV} {hn : α → DH} {f : FuncId} {az : List DV} {H : DH} (h : Ev T f az H fun r' H' => ∃ a, R a ∧ r' = en a ∧ H' = hn a) : ∃ a, R a ∧ EvH T f az H (en a) (hn a) := by
  obtain ⟨n, r', H', h1, a, ha, rfl, rfl⟩ := h
  exact ⟨a, ha, n, h1⟩
theorem purs_step {e : Evi} {i k : Nat} {y : Pur} (hy : e.Purities[k]? = some y) : (zipI 0 (e.Purities.take (k + 1))).flatMap (purs1 e i) = (zipI 0 (e.Purities.take k)).flatMap (purs1 e i) ++ purs1 e i (k, y) := by
  rw [zipI_take _ 0 k y hy, List.flatMap_append, Nat.zero_add]; simp
theorem purs_e (e : Evi) (l : List (Rw × Org)) (i : Nat) (hi : i < 1000000) (hm : 0 ≤ e.Materials ∧ e.Materials ≤ 6) (hl : e.Purities.length < 100000) (hll : l.length < 100000) (hp : ∀ p ∈ e.Purities, 0 ≤ p.Least ∧ p.Least ≤ p.Most ∧ p.Most ≤ 1000) : ∃ b : Bool, True ∧ EvH tt 91 [.bp 0 0, I i] (mkH e false false false l) (.tup []) (mkH e true true b (l ++ purs e i)) := by
  refine evXH (en := fun _ => .tup []) (hn := fun b => mkH e true true b (l ++ purs e i)) (eInH 3 Tryz.func91 rfl rfl rfl ?_)
  refine qFa e.Purities.length (fun z _ => [(13, I z)]) (fun _ q => [(1, .row 214 6 (rwL q.1)), (2, .row 58 4 (orL q.1))]) (fun q => [(1, q.2), (2, q.2)]) (fun k q => q.1 = l ++ (zipI 0 (e.Purities.take k)).flatMap (purs1 e i) ∧ q.1.length ≤ l.length + 2 * k) (l, false) rfl rfl ⟨by simp [zipI], Nat.le_refl _⟩ ?_
  rintro k ⟨q, b⟩ hk ⟨hq, hql⟩ ih
  have hq : q = l ++ (zipI 0 (e.Purities.take k)).flatMap (purs1 e i) := hq
  have hql : q.length ≤ l.length + 2 * k := hql
  cases b
  all_goals
    refine qXl rfl rfl rfl hk (fun y hy hd hlt => ?_) (fun hd hk => ?_)
    · obtain ⟨p1, p2, p3⟩ := hp y (List.mem_of_getElem? hy)
      have h0 : EvF tt 18 [I 0] (.v (eF (toF 0))) := fint_e (x := 0) (by decide) (by decide)
      have hneg : IntKind.i64.wrap (0 - y.Least) = -y.Least := (isub_i64 (x := 0) (y := y.Least) (by omega) (by omega)).trans (by omega)
      have hs1 : ∀ q, EvH tt 158 [.bp 0 0, I i, I (IntKind.i64.wrap (0 - y.Least)), I y.Material, I 1000] (mkH e false false false q) (L ((sumT e i (-y.Least) y.Material 1000).map eTm)) (mkH e true true false q) := fun q => by rw [hneg]; exact msum_e e q i _ _ _ hm hi (by omega) (by omega)
      have hs2 : ∀ q, EvH tt 158 [.bp 0 0, I i, I y.Most, I y.Material, I (-1000)] (mkH e false false false q) (L ((sumT e i y.Most y.Material (-1000)).map eTm)) (mkH e true true false q) := fun q => msum_e e q i _ _ _ hm hi (by omega) (by omega)
      refine qC rfl (fun h => ?_) (fun h => ?_)
      refine qB (ih _ (_, _) (next64 (by omega)) hlt ?_) rfl; rotate_left
      refine qK rfl (hs1 _) rfl ?_
      refine qK rfl (h0) rfl ?_
      refine qK rfl (madd_e e _ (sumT e i (-y.Least) y.Material 1000) _ 0 ⟨_, _, _, _⟩   (by     first     | omega     | (simp; omega))) rfl ?_
      refine qE rfl (by kernel_rfl) (by kernel_rfl) ?_
      refine qK rfl (hs2 _) rfl ?_
      refine qK rfl (h0) rfl ?_
      refine qK rfl (madd_e e _ (sumT e i y.Most y.Material (-1000)) _ 0 ⟨_, _, _, _⟩   (by     first     | omega     | (simp; omega))) rfl ?_
      refine qE rfl (by kernel_rfl) (by kernel_rfl) ?_
      refine qB (ih _ (_, _) (next64 (by omega)) hlt ?_) rfl; rotate_left
      all_goals clear ih
      · refine ⟨?_, by show q.length ≤ _; omega⟩
        show q = _
        rw [purs_step hy, ← List.append_assoc, ← hq]; unfold purs1; rw [if_neg h]; simp
      · refine ⟨?_, by simp; omega⟩
        rw [purs_step hy, ← List.append_assoc, ← hq]; unfold purs1; rw [if_pos (Classical.not_not.1 h)]; simp
    · have : purs e i = (zipI 0 (e.Purities.take k)).flatMap (purs1 e i) := by unfold purs; rw [hk, List.take_length]
      rw [this, ← hq]
      first
        | exact qR rfl ⟨false, trivial, rfl, rfl⟩
        | exact qR rfl ⟨true, trivial, rfl, rfl⟩
end Go.Proofs.YteekaonhdckicaaGreatDoor.Dp

namespace Go.Proofs.YteekaonhdckicaaGreatDoor.Dp
open Go Go.RowKit Go.Proofs.YteekaonhdckicaaGreatDoor.Rt Go.Proofs Go.Proofs.YteekaonhdckicaaGreatDoor.D
set_option linter.unusedVariables false
set_option maxHeartbeats 4000000
set_option maxRecDepth 100000
structure Good (e : Evi) : Prop where
  mat : 1 ≤ e.Materials ∧ e.Materials ≤ 6
  plc : e.Places.length ≤ 100
  mov : e.Moves.length ≤ 200
  crt : e.Certs.length ≤ 100
  rcl : e.Recalls.length ≤ 30
  pur : e.Purities.length ≤ 200
  mv : ∀ m ∈ e.Moves, movR e m = true
  day : ∀ m ∈ e.Moves, 0 ≤ m.Day ∧ m.Day ≤ 100000
  pr : ∀ p ∈ e.Purities, purR e p = true
theorem chkM_good {e : Evi} : ∀ {l : List Mve} {last : Int}, 0 ≤ last → chkM e last l = 0 → (∀ m ∈ l, movR e m = true) ∧ ∀ m ∈ l, 0 ≤ m.Day ∧ m.Day ≤ 100000
  | [], _, _, _ => ⟨by simp, by simp⟩
  | m :: l, last, h0, h => by
    unfold chkM at h
    split at h
    · cases h
    · rename_i hd
      split at h
      · cases h
      · rename_i hm
        obtain ⟨h1, h2⟩ := chkM_good (l := l) (last := m.Day) (by omega) h
        have hm : movR e m = true := by simpa using hm
        refine ⟨fun x hx => ?_, fun x hx => ?_⟩
        · rcases List.mem_cons.1 hx with rfl | hx
          · exact hm
          · exact h1 x hx
        · rcases List.mem_cons.1 hx with rfl | hx
          · omega
          · exact h2 x hx
theorem flow_good {e : Evi} (h : flowC e = 0) : Good e := by
  unfold flowC at h
  split at h
  · cases h
  · rename_i hf
    split at h
    · cases h
    · rename_i h2
      split at h
      · rename_i h3; exact absurd h h3
      · rename_i h3
        split at h
        · rename_i h4
          simp only [fullE, Bool.or_eq_true, decide_eq_true_eq, not_or] at hf
          simp only [not_or] at h2
          have h3 : chkM e 0 e.Moves = 0 := Classical.not_not.1 h3
          obtain ⟨k1, k2⟩ := chkM_good (Int.le_refl 0) h3
          unfold saidR at h4
          simp only [Bool.and_eq_true] at h4
          refine ⟨by omega, by omega, by omega, by omega, by omega, by omega, k1, k2, fun p hp => List.all_eq_true.1 h4.2 p hp⟩
        · cases h
theorem Good.from' {e : Evi} (h : Good e) {m : Mve} (hm : m ∈ e.Moves) : ∃ p, 0 ≤ m.From ∧ e.Places[m.From.toNat]? = some p ∧ kindAt e m.From = p.Kind := by
  have := h.mv m hm
  unfold movR at this
  split at this
  · cases this
  · rename_i h1
    simp only [not_or, Bool.not_eq_false, idx_iff] at h1
    have hlt : m.From.toNat < e.Places.length := by omega
    exact ⟨_, h1.1.1, List.getElem?_eq_getElem hlt, by unfold kindAt; rw [List.getElem?_eq_getElem hlt]⟩
theorem Good.purs {e : Evi} (h : Good e) : ∀ p ∈ e.Purities, 0 ≤ p.Least ∧ p.Least ≤ p.Most ∧ p.Most ≤ 1000 := fun p hp => by
  have := h.pr p hp
  unfold purR at this
  simp only [Bool.and_eq_true, decide_eq_true_eq] at this
  omega
structure Sy where
  N : Int
  Rows : List Rw
def eSy (s : Sy) : VT := .agg [.int .i64 s.N, .sl (s.Rows.map eRw)]
theorem len_purs (e : Evi) (i : Nat) : (purs e i).length ≤ 2 * e.Purities.length := by
  have : ∀ (l : List Pur) (k : Nat), ((zipI k l).flatMap (purs1 e i)).length ≤ 2 * l.length := by
    intro l
    induction l with
    | nil => intro k; simp [zipI]
    | cons x l ih =>
      intro k
      have h1 := ih (k + 1)
      have h2 : (purs1 e i (k, x)).length ≤ 2 := by unfold purs1; split <;> simp
      simp only [zipI, List.flatMap_cons, List.length_append, List.length_cons]
      omega
  exact this _ _
theorem len_rows1 {e : Evi} (h : Good e) (q : Nat × Mve) : (rows1 e q).length ≤ 408 := by
  have h1 := len_purs e q.1
  have h2 : (stks e q.1 q.2).length ≤ 6 := by
    unfold stks; split
    · simp
    · rw [List.length_map, List.length_range]; have := h.mat; omega
  have h3 : (wgts e q.1 q.2).length ≤ 2 := by
    unfold wgts; split
    · simp
    · split <;> simp
  have := h.pur
  unfold rows1
  simp only [List.length_append]; omega
theorem rows_step {e : Evi} {k : Nat} {y : Mve} (hy : e.Moves[k]? = some y) : (zipI 0 (e.Moves.take (k + 1))).flatMap (rows1 e) = (zipI 0 (e.Moves.take k)).flatMap (rows1 e) ++ rows1 e (k, y) := by
  rw [zipI_take _ 0 k y hy, List.flatMap_append, Nat.zero_add]; simp
abbrev mkR (e : Evi) (l : List (Rw × Org)) : DH := [⟨0, 0, false, true, true, .box 98 (mkB e)⟩, ⟨0, 0, false, true, true, .row 214 6 (rwL l)⟩, ⟨0, 0, false, true, true, .row 58 4 (orL l)⟩]
theorem made_e {e : Evi} (h : Good e) : EvH tt 43 [.v (eEv e)] [] (.bp 0 0) (mkR e (rowsE e)) := by
  have hl1 := h.mov
  have hl2 := h.pur
  have hl3 := h.crt
  have hl4 := h.rcl
  have hl5 := h.mat
  refine evF (eIn Tryz.func43 rfl rfl ?_)
  refine qF e.Moves.length (fun z _ => [(12, I z)]) (fun _ q => [(1, .row 214 6 (rwL q)), (2, .row 58 4 (orL q))]) (fun k q => q = (zipI 0 (e.Moves.take k)).flatMap (rows1 e) ∧ q.length ≤ 408 * k) [] rfl rfl ⟨rfl, Nat.le_refl _⟩ ?_
  rintro k q hk ⟨hq, hql⟩ ih
  have hq : q = (zipI 0 (e.Moves.take k)).flatMap (rows1 e) := hq
  have hql : q.length ≤ 408 * k := hql
  refine qXl rfl rfl rfl hk (fun y hy hd hlt => ?_) (fun hd hk => ?_)
  · obtain ⟨p, f1, f2, f3⟩ := h.from' (List.mem_of_getElem? hy)
    refine qXi rfl f1 f2 ?_
    have hr1 := len_rows1 h (k, y)
    have hr2 : rows1 e (k, y) = stks e k y ++ wgts e k y ++ purs e k := rfl
    have hJ : q ++ stks e k y ++ wgts e k y ++ purs e k = (zipI 0 (e.Moves.take (k + 1))).flatMap (rows1 e) ∧ (q ++ stks e k y ++ wgts e k y ++ purs e k).length ≤ 408 * (k + 1) := by
      rw [rows_step hy, hr2, ← hq]
      rw [hr2] at hr1
      simp only [List.length_append, List.append_assoc, true_and] at *
      omega
    have hsl : (q ++ stks e k y).length ≤ 90000 ∧ (q ++ stks e k y ++ wgts e k y).length ≤ 90000 := by
      rw [hr2] at hr1
      simp only [List.length_append] at *
      omega
    have hw : EvH tt 90 [.bp 0 0, I k] (mkH e false false false (q ++ stks e k y)) (.tup []) (mkH e false false false (q ++ stks e k y ++ wgts e k y)) ∨ EvH tt 90 [.bp 0 0, I k] (mkH e false false false (q ++ stks e k y)) (.tup []) (mkH e true true true (q ++ stks e k y ++ wgts e k y)) := by
      by_cases hs : y.Scale = -1
      · left
        have : wgts e k y = [] := by unfold wgts; rw [if_pos hs]
        rw [this, List.append_nil]
        exact weight_0 e _ k y hy (.inl hs) (by omega) (by omega) (by omega)
      · cases hi : itvl e y with
        | none =>
          left
          have : wgts e k y = [] := by unfold wgts; rw [if_neg hs, hi]
          rw [this, List.append_nil]
          exact weight_0 e _ k y hy (.inr hi) (by omega) (by omega) (by omega)
        | some lh => exact .inr (weight_1 e _ k y hy hs hi (by omega) (by omega) (by omega) (by omega) (by omega))
    obtain ⟨b, -, hpu⟩ := purs_e e (q ++ stks e k y ++ wgts e k y) k (by omega) (by omega) (by omega) (by omega) h.purs
    generalize hL : q ++ stks e k y ++ wgts e k y ++ purs e k = L at hpu hJ
    generalize hM : q ++ stks e k y ++ wgts e k y = M at hpu hw
    by_cases hk0 : p.Kind = 0
    · have hs0 : stks e k y = [] := by unfold stks; rw [if_pos (f3.trans hk0)]
      rw [hs0, List.append_nil] at hw
      refine qN rfl (by rw [hk0]; rfl) ?_
      clear hq hql hsl hr1 hr2 hL hM
      rcases hw with hw | hw <;> cases b
      all_goals
        refine qK rfl (hw) rfl ?_
        refine qK rfl (hpu) rfl ?_
        refine qB (ih _ _ (next64 (by omega)) hlt hJ) rfl
    · have hst : EvH tt 89 [.bp 0 0, I k] (mkH e false false false q) (.tup []) (mkH e true true true (q ++ stks e k y)) := by
        have := stock_e e q k y hy (by omega) (by omega) (by omega)
        unfold stks
        rw [if_neg (by rw [f3]; exact hk0)]
        exact this
      generalize q ++ stks e k y = K at hst hw
      refine qT rfl (by rw [bne_iff_ne]; exact hk0) ?_
      clear hq hql hsl hr1 hr2 hL hM
      rcases hw with hw | hw <;> cases b
      all_goals
        refine qK rfl (hst) rfl ?_
        refine qK rfl (hw) rfl ?_
        refine qK rfl (hpu) rfl ?_
        refine qB (ih _ _ (next64 (by omega)) hlt hJ) rfl
  · have hr : rowsE e = q := by unfold rowsE; rw [hq, hk, List.take_length]
    rw [hr]
    exact qR rfl ⟨rfl, rfl⟩
def sysE (e : Evi) : Sy := ⟨e.Moves.length * e.Materials, (rowsE e).map (·.1)⟩
theorem system_e (e : Evi) (hp : e.Places.length < 1000000) (hm : e.Moves.length < 1000000) (hc : e.Certs.length < 1000000) (hr : e.Recalls.length < 1000000) (hq : e.Purities.length < 1000000) : EvF tt 15 [.v (eEv e)] (.tup [.v (eSy (if flowC e = 0 then sysE e else ⟨0, []⟩)), I (flowC e)]) := by
  have hf := flow_e e hp hm hc hr hq
  refine evF (eIn Tryz.func15 rfl rfl ?_)
  by_cases h0 : flowC e = 0
  · rw [if_pos h0]
    have hma := made_e (flow_good h0)
    have hmul : imul .i64 (e.Moves.length : Int) e.Materials = e.Moves.length * e.Materials := by
      have h1 := (flow_good h0).mat
      have h2 := (flow_good h0).mov
      have := mul_rng (a := (e.Moves.length : Int)) (b := e.Materials) (A := 200) (C := 6) (by omega) (by omega) (by omega) (by omega)
      exact imul_i64 (by omega) (by omega)
    refine qK rfl hf rfl ?_
    refine qN rfl (by rw [h0]; rfl) ?_
    refine qK rfl (hma) rfl ?_
    refine qE rfl (by kernel_rfl) (by kernel_rfl) ?_
    refine qR rfl ⟨?_, rfl⟩; rotate_left
    rw [h0]
    show DV.tup [.v (.agg [N (imul .i64 ((e.Moves.map eMo).length : Int) e.Materials), .sl (rwL (rowsE e))]), I 0] = _
    rw [List.length_map, hmul]
    unfold sysE eSy rwL
    rw [List.map_map]
    rfl
  · rw [if_neg h0]
    refine qK rfl hf rfl ?_
    refine qT rfl (bne_iff_ne.2 h0) ?_
    exact qR rfl ⟨rfl, rfl⟩
end Go.Proofs.YteekaonhdckicaaGreatDoor.Dp

namespace Go.Proofs.YteekaonhdckicaaGreatDoor.Dp
open Go Go.RowKit Go.Proofs.YteekaonhdckicaaGreatDoor.Rt Go.Proofs Go.Proofs.YteekaonhdckicaaGreatDoor.D
set_option linter.unusedVariables false
set_option maxHeartbeats 4000000
set_option maxRecDepth 100000
def rtT (n : Int) : Int → List Trm → Bool
  | _, [] => true
  | last, t :: l => decide (last < t.1) && decide (t.1 < n) && decide (t.2 ≠ 0) && rtT n t.1 l
def rowR (n : Int) (r : Rw) : Bool := rtT n (-1) r.Terms && btw r.Kind 0 2
def sysR (s : Sy) : Bool := btw s.N 0 1500 && decide (s.Rows.length ≤ 6000) && s.Rows.all (rowR s.N)
structure SyOk (s : Sy) (k : Nat) : Prop where
  len : s.Rows.length ≤ 100000
  terms : ∀ r ∈ s.Rows, r.Terms.length ≤ 10000 ∧ (∀ t ∈ r.Terms, SmF k t.2) ∧ SmF k r.Value
theorem sg_ne {r : Rat} : (sg r.num == 0) = decide (r = 0) := by
  rw [sg_num, cmpQ_zero]
theorem rterms_e {n : Int} {l : List Trm} {k : Nat} (hl : l.length ≤ 10000) (hs : ∀ t ∈ l, SmF k t.2) (hk : k < 4000000) (hn : 0 ≤ n) : EvF tt 104 [L (l.map eTm), I n] (B (rtT n (-1) l)) := by
  refine evF (eIn Tryz.func104 rfl rfl ?_)
  refine qN rfl (decide_eq_false (by omega)) ?_
  refine qF l.length (fun z q => [(12, I z), (5, I q)]) (fun _ _ => []) (fun j q => rtT n (-1) l = rtT n q (l.drop j)) (-1) rfl rfl rfl ?_
  rintro j q hj hq ih
  have hq : rtT n (-1) l = rtT n q (l.drop j) := hq
  refine qXl rfl rfl rfl hj (fun t ht hd hlt => ?_) (fun hd hj => ?_)
  · rw [hd, show rtT n q (t :: l.drop (j + 1)) = (decide (q < t.1) && decide (t.1 < n) && decide (t.2 ≠ 0) && rtT n t.1 (l.drop (j + 1))) from rfl] at hq
    have hsg := fsign_e (hs t (List.mem_of_getElem? ht)) hk
    have hs0 := sg_ne (r := t.2)
    refine qC rfl (fun h => ?_) (fun h => ?_)
    refine qR rfl ⟨congrArg B ?_, rfl⟩; rotate_left
    refine qC rfl (fun h => ?_) (fun h => ?_)
    refine qR rfl ⟨congrArg B ?_, rfl⟩; rotate_left
    refine qK rfl (hsg) rfl ?_
    refine qC rfl (fun h => ?_) (fun h => ?_)
    refine qR rfl ⟨congrArg B ?_, rfl⟩; rotate_left
    refine qB (ih _ _ (next64 (by omega)) hlt ?_) rfl; rotate_left
    all_goals clear ih
    all_goals grind
  · rw [hd] at hq
    rw [hq]
    exact qR rfl ⟨rfl, rfl⟩
theorem right_s {s : Sy} {k : Nat} (hS : SyOk s k) (hk : k < 4000000) : EvF tt 103 [.v (eSy s)] (B (sysR s)) := by
  refine evF (eIn Tryz.func103 rfl rfl ?_)
  have hll := hS.len
  refine qC rfl (fun h => ?_) (fun h => ?_)
  refine qR rfl ⟨congrArg B ?_, rfl⟩; rotate_left
  refine qC rfl (fun h => ?_) (fun h => ?_)
  refine qR rfl ⟨congrArg B ?_, rfl⟩; rotate_left
  refine qC rfl (fun h => ?_) (fun h => ?_)
  refine qR rfl ⟨congrArg B ?_, rfl⟩; rotate_left
  · refine qF s.Rows.length (fun z _ => [(22, I z)]) (fun _ _ => []) (fun j (_ : Unit) => s.Rows.all (rowR s.N) = (s.Rows.drop j).all (rowR s.N)) () rfl rfl rfl ?_
    rintro j _ hj hq ih
    have hq : s.Rows.all (rowR s.N) = (s.Rows.drop j).all (rowR s.N) := hq
    refine qXl rfl rfl rfl hj (fun r hr hd hlt => ?_) (fun hd hj => ?_)
    · obtain ⟨h1, h2, h3⟩ := hS.terms r (List.mem_of_getElem? hr)
      rw [hd, List.all_cons] at hq
      refine qK rfl (rterms_e h1 h2 hk (by omega)) rfl ?_
      refine qC rfl (fun h => ?_) (fun h => ?_)
      refine qR rfl ⟨congrArg B ?_, rfl⟩; rotate_left
      refine qC rfl (fun h => ?_) (fun h => ?_)
      refine qR rfl ⟨congrArg B ?_, rfl⟩; rotate_left
      refine qC rfl (fun h => ?_) (fun h => ?_)
      refine qR rfl ⟨congrArg B ?_, rfl⟩; rotate_left
      refine qK rfl (fright h3 (by omega)) rfl ?_
      refine qN rfl rfl ?_
      refine qB (ih _ () (next64 (by omega)) hlt ?_) (by kernel_rfl); rotate_left
      all_goals clear ih
      all_goals rw [List.length_map] at *
      all_goals grind [sysR, rowR, btw]
    · rw [hd, List.all_nil] at hq
      rw [List.length_map] at *
      exact qR rfl ⟨congrArg B (by grind [sysR, btw]), rfl⟩
  all_goals try rw [List.length_map] at *
  all_goals grind [sysR, btw]
theorem multis_e {s : Sy} {k : Nat} (hS : SyOk s k) (hk : k < 4000000) (y : List Frac) (hy : ∀ f ∈ y, f.P.Digits.length ≤ k ∧ f.Q.Digits.length ≤ k) (hl : y.length ≤ 100000) : EvF tt 208 [.v (eSy s), L (fs y)] (B (sysR s && decide (y.length = s.Rows.length) && y.all rightf)) := by
  refine evF (eIn Tryz.func208 rfl rfl ?_)
  refine qK rfl (right_s hS hk) rfl ?_
  refine qC rfl (fun h => ?_) (fun h => ?_)
  refine qR rfl ⟨congrArg B ?_, rfl⟩; rotate_left
  refine qC rfl (fun h => ?_) (fun h => ?_)
  refine qR rfl ⟨congrArg B ?_, rfl⟩; rotate_left
  · refine qF y.length (fun z _ => [(20, I z)]) (fun _ _ => []) (fun j (_ : Unit) => y.all rightf = (y.drop j).all rightf) () rfl rfl rfl ?_
    rintro j _ hj hq ih
    have hq : y.all rightf = (y.drop j).all rightf := hq
    refine qXl rfl rfl rfl hj (fun f hf hd hlt => ?_) (fun hd hj => ?_)
    · obtain ⟨h1, h2⟩ := hy f (List.mem_of_getElem? hf)
      rw [hd, List.all_cons] at hq
      refine qK rfl (fright_e h1 h2 (by omega)) rfl ?_
      refine qC rfl (fun h => ?_) (fun h => ?_)
      refine qR rfl ⟨congrArg B ?_, rfl⟩; rotate_left
      refine qB (ih _ () (next64 (by omega)) hlt ?_) (by kernel_rfl); rotate_left
      all_goals clear ih
      all_goals simp only [List.length_map] at *
      all_goals grind
    · rw [hd, List.all_nil] at hq
      simp only [List.length_map] at *
      exact qR rfl ⟨congrArg B (by grind), rfl⟩
  all_goals try simp only [List.length_map] at *
  all_goals grind
def toQ (f : Frac) : Rat := Rat.divInt (ofB f.P) (ofB f.Q)
theorem toQ_toF (r : Rat) : toQ (toF r) = r := by
  unfold toQ
  show Rat.divInt (ofB (toB r.num)) (ofB (toB (r.den : Int))) = r
  rw [ofB_toB, ofB_toB]
  exact Rat.num_divInt_den r
theorem toQ_of {f : Frac} {k : Nat} (h : f.P.Digits.length ≤ k ∧ f.Q.Digits.length ≤ k) (hr : rightf f = true) : f = toF (toQ f) ∧ SmF k (toQ f) := by
  obtain ⟨r, rfl, h2⟩ := rat_of h hr
  rw [toQ_toF]
  exact ⟨rfl, h2⟩
def sgnL : List Rw → List Rat → Bool
  | r :: rs, m :: ms => (if r.Kind = 0 then decide (0 ≤ m) else if r.Kind = 1 then decide (m ≤ 0) else true) && sgnL rs ms
  | _, _ => true
def mulS (s : Sy) (y : List Frac) : Bool := sysR s && decide (y.length = s.Rows.length) && y.all rightf
def sgnS (s : Sy) (y : List Frac) : Bool := mulS s y && sgnL s.Rows (y.map toQ)
theorem dsigned_e {s : Sy} {k : Nat} (hS : SyOk s k) (hk : k < 4000000) (y : List Frac) (hy : ∀ f ∈ y, f.P.Digits.length ≤ k ∧ f.Q.Digits.length ≤ k) (hl : y.length ≤ 100000) : EvF tt 147 [.v (eSy s), L (fs y)] (B (sgnS s y)) := by
  have hm : EvF tt 208 [.v (eSy s), L (fs y)] (B (mulS s y)) := multis_e hS hk y hy hl
  refine evF (eIn Tryz.func147 rfl rfl ?_)
  refine qK rfl hm rfl ?_
  cases hms : mulS s y with
  | false =>
    refine qT rfl rfl ?_
    refine qR rfl ⟨congrArg B ?_, rfl⟩; rotate_left
    unfold sgnS
    rw [hms]; rfl
  | true =>
    have hm2 := hms
    unfold mulS at hm2
    simp only [Bool.and_eq_true, decide_eq_true_eq] at hm2
    obtain ⟨⟨m1, m2⟩, m3⟩ := hm2
    refine qN rfl rfl ?_
    refine qF y.length (fun z _ => [(14, I z)]) (fun _ _ => []) (fun j (_ : Unit) => sgnL s.Rows (y.map toQ) = sgnL (s.Rows.drop j) ((y.drop j).map toQ)) () rfl rfl rfl ?_
    rintro j _ hj hq ih
    have hq : sgnL s.Rows (y.map toQ) = sgnL (s.Rows.drop j) ((y.drop j).map toQ) := hq
    refine qXl rfl rfl rfl hj (fun f hf hd hlt => ?_) (fun hd hj => ?_)
    · have hfm := List.mem_of_getElem? hf
      obtain ⟨e1, e2⟩ := toQ_of (hy f hfm) (List.all_eq_true.1 m3 f hfm)
      have hrl : j < s.Rows.length := by omega
      have hr := List.getElem?_eq_getElem hrl
      generalize s.Rows[j] = r at hr
      rw [hd, dropAt hr, List.map_cons] at hq
      have hq2 : sgnL s.Rows (y.map toQ) = ((if r.Kind = 0 then decide (0 ≤ toQ f) else if r.Kind = 1 then decide (toQ f ≤ 0) else true) && sgnL (s.Rows.drop (j + 1)) ((y.drop (j + 1)).map toQ)) := hq
      generalize toQ f = g at *
      subst e1
      have hsg := fsign_e e2 hk
      have hc := cmpQ_cases g 0
      rw [← sg_num] at hc
      refine qK rfl hsg rfl ?_
      refine qXi rfl (by omega) hr ?_
      refine qC rfl (fun h => ?_) (fun h => ?_)
      refine qC rfl (fun h => ?_) (fun h => ?_)
      refine qR rfl ⟨congrArg B ?_, rfl⟩; rotate_left
      refine qB (ih _ () (next64 (by omega)) hlt ?_) (by kernel_rfl); rotate_left
      refine qC rfl (fun h => ?_) (fun h => ?_)
      refine qC rfl (fun h => ?_) (fun h => ?_)
      refine qR rfl ⟨congrArg B ?_, rfl⟩; rotate_left
      refine qB (ih _ () (next64 (by omega)) hlt ?_) (by kernel_rfl); rotate_left
      refine qB (ih _ () (next64 (by omega)) hlt ?_) (by kernel_rfl); rotate_left
      all_goals clear ih
      all_goals (simp only [sgnS, hms, Bool.true_and] at *; grind)
    · rw [hd] at hq
      have hq : sgnL s.Rows (y.map toQ) = true := by rw [hq]; cases s.Rows.drop j <;> rfl
      refine qR rfl ⟨congrArg B ?_, rfl⟩
      unfold sgnS
      rw [hms, hq]; rfl
end Go.Proofs.YteekaonhdckicaaGreatDoor.Dp

namespace Go.Proofs.YteekaonhdckicaaGreatDoor.Dp
open Go Go.RowKit Go.Proofs.YteekaonhdckicaaGreatDoor.Rt Go.Proofs Go.Proofs.YteekaonhdckicaaGreatDoor.D
set_option linter.unusedVariables false
set_option maxHeartbeats 4000000
set_option maxRecDepth 100000
theorem smF_0 : SmF 1 (0 : Rat) := ⟨by unfold Sm; decide, by unfold Sm; decide⟩
theorem dadd_e {a b c : Rat} {j k : Nat} (ha : SmF j a) (hb : SmF k b) (hc : SmF k c) (hk : j + 2 * k < 3000000) : EvF tt 209 [.v (eF (toF a)), .v (eF (toF b)), .v (eF (toF c))] (.v (eF (toF (a + b * c)))) := by
  have h1 := fmul_e hb hc (by omega)
  have h2 := fadd_e ha (hb.mul hc) (by omega)
  refine evF (eIn Tryz.func209 rfl rfl ?_)
  refine qK rfl (h1) rfl ?_
  refine qK rfl (h2) rfl ?_
  exact qR rfl ⟨rfl, rfl⟩
def mixT (m : Rat) : List Rat → List Trm → List Rat
  | s, [] => s
  | s, t :: l => mixT m (s.set t.1.toNat (s.getD t.1.toNat 0 + m * t.2)) l
def mixS : List Rat → List Rw → List Rat → List Rat
  | s, r :: rs, m :: ms => mixS (if m = 0 then s else mixT m s r.Terms) rs ms
  | s, _, _ => s
def mixV : Rat → List Rw → List Rat → Rat
  | v, r :: rs, m :: ms => mixV (if m = 0 then v else v + m * r.Value) rs ms
  | v, _, _ => v
def outT : Nat → List Rat → List Trm
  | _, [] => []
  | v, c :: l => if c = 0 then outT (v + 1) l else ((v : Int), c) :: outT (v + 1) l
def mixO (s : Sy) (ys : List Rat) : List Trm := outT 0 (mixS (List.replicate s.N.toNat 0) s.Rows ys)
abbrev qs (l : List Rat) : List VT := l.map fun r => eF (toF r)
abbrev boxF (v : Rat) : Ob := .box 40 [.v (N (toF v).P.Sign), .v (.sl (ns (toF v).P.Digits)), .v (N (toF v).Q.Sign), .v (.sl (ns (toF v).Q.Digits))]
theorem set_rep {α : Type} (a b : α) {j n : Nat} (h : j < n) : (List.replicate j a ++ List.replicate (n - j) b).set j a = List.replicate (j + 1) a ++ List.replicate (n - (j + 1)) b := by
  rw [show n - j = (n - (j + 1)) + 1 by omega, List.replicate_succ, List.set_append_right _ _ (by simp), List.length_replicate, Nat.sub_self, List.set_cons_zero, List.replicate_succ', List.append_assoc]; rfl
theorem rtT_mem {n : Int} : ∀ {l : List Trm} {last : Int}, rtT n last l = true → ∀ t ∈ l, last < t.1 ∧ t.1 < n
  | [], _, _, t, h => by simp at h
  | x :: l, last, h, t, ht => by
    unfold rtT at h
    simp only [Bool.and_eq_true, decide_eq_true_eq] at h
    rcases List.mem_cons.1 ht with rfl | ht
    · exact h.1.1
    · have := rtT_mem h.2 t ht
      omega
theorem mix_e {s : Sy} {k : Nat} (hS : SyOk s k) (hk : k ≤ 200) (ht : ∀ r ∈ s.Rows, r.Terms.length ≤ 100) (y : List Frac) (hy : ∀ f ∈ y, f.P.Digits.length ≤ k ∧ f.Q.Digits.length ≤ k) (hl : y.length ≤ 64) (hm : mulS s y = true) :
    EvF tt 148 [.v (eSy s), L (fs y)] (.tup [L ((mixO s (y.map toQ)).map eTm), .v (eF (toF (mixV 0 s.Rows (y.map toQ))))]) := by
  have hmu : EvF tt 208 [.v (eSy s), L (fs y)] (B (mulS s y)) := multis_e hS (by omega) y hy (by omega)
  rw [hm] at hmu
  have h0 : EvF tt 18 [I 0] (.v (eF (toF 0))) := fint_e (x := 0) (by decide) (by decide)
  refine evF (eIn Tryz.func148 rfl rfl ?_)
  refine qK rfl hmu rfl ?_
  refine qN rfl rfl ?_
  have hN : 0 ≤ s.N ∧ s.N ≤ 1500 := by
    unfold mulS sysR at hm
    simp only [Bool.and_eq_true, btw_iff] at hm
    exact hm.1.1.1.1
  have hyl : y.length = s.Rows.length ∧ y.all rightf = true := by
    unfold mulS at hm
    simp only [Bool.and_eq_true, decide_eq_true_eq] at hm
    exact ⟨hm.1.2, hm.2⟩
  refine qM 64 rfl rfl ⟨?_, ?_⟩ ?_; rotate_left 2
  · refine qF s.N.toNat (fun z _ => [(26, I z)]) (fun _ ts => [(0, .row 40 4 ts)]) (fun j ts => ts = fs (List.replicate j (toF 0) ++ List.replicate (s.N.toNat - j) zeroF)) (List.replicate s.N.toNat (eF zeroF)) rfl rfl (by simp) ?_
    rintro j ts hj hts ih
    have hts : ts = fs (List.replicate j (toF 0) ++ List.replicate (s.N.toNat - j) zeroF) := hts
    subst hts
    by_cases hlt : j < s.N.toNat
    · refine qT rfl (decide_eq_true (by rw [List.length_replicate]; omega)) ?_
      refine qK rfl (h0) rfl ?_
      refine qXm rfl ⟨?_, ?_⟩ fun v hv _ => ?_; rotate_left 2
      refine qB (ih _ _ (next64 (by omega)) hlt ?_) rfl; rotate_left
      all_goals clear ih
      · omega
      · simp; omega
      · show List.set (fs _) (Int.toNat j) (eF (toF 0)) = _
        rw [Int.toNat_natCast, ← List.map_set, set_rep _ _ hlt]
    · refine qN rfl (decide_eq_false (by rw [List.length_replicate]; omega)) ?_
      obtain rfl : j = s.N.toNat := by omega
      rw [Nat.sub_self, List.replicate_zero, List.append_nil]
      have hrep : fs (List.replicate s.N.toNat (toF 0)) = qs (List.replicate s.N.toNat 0) := by simp
      rw [hrep]
      refine qK rfl (h0) rfl ?_
      refine qF y.length (fun z _ => [(37, I z)]) (fun _ q => [(0, boxF q.2), (1, .row 40 4 q.1)]) (fun j q => ∃ cur : List Rat, q.1 = qs cur ∧ mixS (List.replicate s.N.toNat 0) s.Rows (y.map toQ) = mixS cur (s.Rows.drop j) ((y.drop j).map toQ) ∧ mixV 0 s.Rows (y.map toQ) = mixV q.2 (s.Rows.drop j) ((y.drop j).map toQ) ∧ cur.length = s.N.toNat ∧ (∀ x ∈ cur, SmF (1 + 100 * j * (2 * k + 1)) x) ∧ SmF (1 + j * (2 * k + 1)) q.2)
        (qs (List.replicate s.N.toNat 0), 0) rfl rfl ⟨_, rfl, rfl, rfl, by simp, fun x hx => by rw [List.eq_of_mem_replicate hx]; exact smF_0.mono (by omega), smF_0.mono (by omega)⟩ ?_
      rintro j ⟨ts, v⟩ hj ⟨cur, hh, hms, hmv, hcl, hcs, hvs⟩ ih
      obtain rfl : ts = qs cur := hh
      have hvs : SmF (1 + j * (2 * k + 1)) v := hvs
      have hmv : mixV 0 s.Rows (y.map toQ) = mixV v (s.Rows.drop j) ((y.drop j).map toQ) := hmv
      refine qXl rfl rfl rfl hj (fun f hf hd hlt => ?_) (fun hd hj => ?_)
      · have hfm := List.mem_of_getElem? hf
        obtain ⟨e1, e2⟩ := toQ_of (hy f hfm) (List.all_eq_true.1 hyl.2 f hfm)
        have hrl : j < s.Rows.length := by omega
        have hr := List.getElem?_eq_getElem hrl
        generalize s.Rows[j] = r at hr
        have hrm := List.mem_of_getElem? hr
        rw [hd, dropAt hr, List.map_cons] at hms hmv
        have hms : mixS (List.replicate s.N.toNat 0) s.Rows (y.map toQ) = mixS (if toQ f = 0 then cur else mixT (toQ f) cur r.Terms) (s.Rows.drop (j + 1)) ((y.drop (j + 1)).map toQ) := hms
        have hmv : mixV 0 s.Rows (y.map toQ) = mixV (if toQ f = 0 then v else v + toQ f * r.Value) (s.Rows.drop (j + 1)) ((y.drop (j + 1)).map toQ) := hmv
        generalize toQ f = g at *
        subst e1
        have hsg := fsign_e e2 (by omega)
        refine qK rfl hsg rfl ?_
        by_cases hg : g = 0
        · refine qT rfl (by rw [sg_ne, hg]; rfl) ?_
          refine   qB     (ih _ (qs cur, v) (next64 (by omega)) hlt       ⟨cur, rfl, hms.trans (by rw [if_pos hg]), hmv.trans (by rw [if_pos hg]), hcl, fun x hx =>         (hcs x hx).mono (by have := Nat.mul_le_mul_right (2 * k + 1) (show 100 * j ≤ 100 * (j + 1) by omega); omega),         hvs.mono (by have := Nat.mul_le_mul_right (2 * k + 1) (show j ≤ j + 1 by omega); omega)⟩)     (by kernel_rfl)
        · refine qN rfl (by rw [sg_ne]; exact decide_eq_false hg) ?_
          refine qXi rfl (by omega) hr ?_
          have hrt : rtT s.N (-1) r.Terms = true := by
            unfold mulS sysR at hm
            simp only [Bool.and_eq_true] at hm
            have := List.all_eq_true.1 hm.1.1.2 r hrm
            unfold rowR at this
            simp only [Bool.and_eq_true] at this
            exact this.1
          obtain ⟨t1, t2, t3⟩ := hS.terms r hrm
          have t4 := ht r hrm
          refine qF r.Terms.length (fun z _ => [(52, I z)]) (fun _ ts => [(3, .row 40 4 ts)]) (fun i ts => ∃ cu : List Rat, ts = qs cu ∧ mixT g cur r.Terms = mixT g cu (r.Terms.drop i) ∧ cu.length = s.N.toNat ∧ ∀ x ∈ cu, SmF (1 + (100 * j + i) * (2 * k + 1)) x) (qs cur) rfl rfl ⟨cur, rfl, rfl, hcl, hcs⟩ ?_
          rintro i ts hi ⟨cu, rfl, hmt, hul, hus⟩ ih2
          refine qXl rfl rfl rfl hi (fun t ht hd2 hlt2 => ?_) (fun hd2 hi => ?_)
          · have htm := List.mem_of_getElem? ht
            have hvr := rtT_mem hrt t htm
            have hxl : t.1.toNat < cu.length := by omega
            have hat := List.getElem?_eq_getElem hxl
            generalize cu[t.1.toNat] = x at hat
            have hb1 := Nat.mul_le_mul (show 100 * j + i ≤ 6500 by omega) (show 2 * k + 1 ≤ 401 by omega)
            have hadd := dadd_e (hus x (List.mem_of_getElem? hat)) e2 (t2 t htm) (by omega)
            refine qXi rfl (by omega) hat ?_
            refine qK rfl hadd rfl ?_
            refine qXi rfl (by omega) hat ?_
            refine qE rfl (by kernel_rfl) (by kernel_rfl) ?_
            refine qB (ih2 _ _ (next64 (by omega)) hlt2 ?_) rfl
            refine ⟨cu.set t.1.toNat (x + g * t.2), (List.map_set (f := fun r : Rat => eF (toF r))).symm, ?_, by rw [List.length_set]; exact hul, fun z hz => ?_⟩
            · rw [hmt, hd2]
              show mixT g (cu.set t.1.toNat (cu.getD t.1.toNat 0 + g * t.2)) _ = _
              rw [List.getD_eq_getElem?_getD, hat]; rfl
            · have := Nat.mul_le_mul_right (2 * k + 1) (show 100 * j + i + 1 ≤ 100 * j + (i + 1) by omega)
              rcases List.mem_or_eq_of_mem_set hz with hz | rfl
              · exact (hus z hz).mono (by have := Nat.mul_le_mul_right (2 * k + 1) (show 100 * j + i ≤ 100 * j + (i + 1) by omega); omega)
              · exact ((hus x (List.mem_of_getElem? hat)).add (e2.mul (t2 t htm))).mono (by rw [Nat.add_mul] at this; omega)
          · refine qXi rfl (by omega) hr ?_
            have hb1 := Nat.mul_le_mul (show j ≤ 64 by omega) (show 2 * k + 1 ≤ 401 by omega)
            have hadd := dadd_e hvs e2 t3 (by omega)
            have hmt : mixT g cur r.Terms = cu := by rw [hmt, hd2]; rfl
            refine qK rfl (hadd) rfl ?_
            refine qE rfl (by kernel_rfl) (by kernel_rfl) ?_
            refine   qB     (ih _ (qs cu, v + g * r.Value) (next64 (by omega)) hlt       ⟨cu, rfl, hms.trans (by rw [if_neg hg, hmt]), hmv.trans (by rw [if_neg hg]), hul, fun x hx =>         (hus x hx).mono           (by have := Nat.mul_le_mul_right (2 * k + 1) (show 100 * j + i ≤ 100 * (j + 1) by omega); omega),         (hvs.add (e2.mul t3)).mono (by rw [Nat.add_mul]; omega)⟩)     (by kernel_rfl)
      · have hms : mixS (List.replicate s.N.toNat 0) s.Rows (y.map toQ) = cur := by
          rw [hms, hd]; simp [mixS]
        have hmv : mixV 0 s.Rows (y.map toQ) = v := by
          rw [hmv, hd]; simp [mixV]
        have hout : mixO s (y.map toQ) = outT 0 cur := by unfold mixO; rw [hms]
        rw [hout, hmv]
        clear ih
        refine qF cur.length (fun z _ => [(82, I z)]) (fun _ o => [(1, .row 143 5 o)]) (fun i o => ∃ ac : List Trm, ac.length ≤ i ∧ o = ac.map eTm ∧ outT 0 cur = ac ++ outT i (cur.drop i)) [] rfl rfl ⟨[], by simp, rfl, rfl⟩ ?_
        rintro i o hi ⟨ac, hal, rfl, hac⟩ ih3
        refine qXl rfl rfl rfl hi (fun x hx hd3 hlt3 => ?_) (fun hd3 hi => ?_)
        · have hxs := hcs x (List.mem_of_getElem? hx)
          have hsg := fsign_e hxs (by have hb1 := Nat.mul_le_mul (show 100 * j ≤ 6400 by omega) (show 2 * k + 1 ≤ 401 by omega); omega)
          rw [hd3] at hac
          have hac : outT 0 cur = ac ++ (if x = 0 then outT (i + 1) (cur.drop (i + 1)) else ((i : Int), x) :: outT (i + 1) (cur.drop (i + 1))) := hac
          refine qK rfl hsg rfl ?_
          by_cases hg : x = 0
          · rw [if_pos hg] at hac
            refine qN rfl (by rw [bne, sg_ne, hg]; rfl) ?_
            refine qB (ih3 _ (ac.map eTm) (next64 (by omega)) hlt3 ⟨ac, by omega, rfl, hac⟩) (by kernel_rfl)
          · rw [if_neg hg] at hac
            refine qT rfl (by rw [bne, sg_ne]; simp [hg]) ?_
            refine qA 72 rfl rfl ?_ ?_; rotate_left
            refine   qB     (ih3 _ _ (next64 (by omega)) hlt3       ⟨ac ++ [((i : Int), x)], by simp; omega, by rw [List.map_append]; rfl, by rw [hac, List.append_assoc]; rfl⟩)     rfl
            all_goals clear ih3
            · simp; omega
        · have hac : outT 0 cur = ac := by rw [hac, hd3]; simp [outT]
          rw [hac]
          refine qE rfl (by kernel_rfl) (by kernel_rfl) ?_
          exact qR rfl ⟨rfl, rfl⟩
          all_goals clear ih3
          all_goals rfl
  all_goals omega
end Go.Proofs.YteekaonhdckicaaGreatDoor.Dp

namespace Go.Proofs.YteekaonhdckicaaGreatDoor.Dp
open Go Go.RowKit Go.Proofs.YteekaonhdckicaaGreatDoor.Rt Go.Proofs Go.Proofs.YteekaonhdckicaaGreatDoor.D
set_option linter.unusedVariables false
set_option maxHeartbeats 4000000
set_option maxRecDepth 100000
def belF : Nat → List Trm → List Trm → Bool
  | 0, _, _ => true
  | n + 1, [], [] => true
  | n + 1, x :: a, [] => if 0 < cmpQ x.2 0 then false else belF n a []
  | n + 1, [], y :: b => if 0 < cmpQ 0 y.2 then false else belF n [] b
  | n + 1, x :: a, y :: b => if x.1 < y.1 then (if 0 < cmpQ x.2 0 then false else belF n a (y :: b)) else if y.1 < x.1 then (if 0 < cmpQ 0 y.2 then false else belF n (x :: a) b) else if 0 < cmpQ x.2 y.2 then false else belF n a b
theorem lslT (x : Trm) (l : List Trm) {q : Nat} (hq : q = 5) {z : Int} (hz : z = ((x :: l).map eTm).length) : lslQ q ((x :: l).map eTm) 1 z = some (l.map eTm) := by
  subst hq hz
  unfold lslQ lsl
  have h1 : szOk 5 ((x :: l).map eTm) = true := szOk_map (g := eTm) (fun _ => rfl) _
  rw [h1]
  show (if _ then _ else _) = _
  rw [if_pos ⟨by omega, by simp; omega, by omega⟩]
  simp
  exact List.take_of_length_le (by simp)
theorem bel_e {a b : List Trm} {k : Nat} (ha : ∀ t ∈ a, SmF k t.2) (hb : ∀ t ∈ b, SmF k t.2) (hk : k < 1000000) (hka : 1 ≤ k) : EvF tt 149 [L (a.map eTm), L (b.map eTm)] (B (belF (a.length + b.length) a b)) := by
  have h0 : EvF tt 18 [I 0] (.v (eF (toF 0))) := fint_e (x := 0) (by decide) (by decide)
  have hz : SmF k (0 : Rat) := smF_0.mono hka
  refine evF (eIn Tryz.func149 rfl rfl ?_)
  refine qK rfl (h0) rfl ?_
  refine qL (fun q : List Trm × List Trm => [(0, L (q.1.map eTm)), (1, L (q.2.map eTm))]) (fun _ => []) (fun q => (∀ t ∈ q.1, SmF k t.2) ∧ (∀ t ∈ q.2, SmF k t.2) ∧ ∃ n, q.1.length + q.2.length ≤ n ∧ belF (a.length + b.length) a b = belF n q.1 q.2) (fun q => q.1.length + q.2.length) (a, b) rfl rfl ⟨ha, hb, _, Nat.le_refl _, rfl⟩ ?_
  rintro ⟨us, ws⟩ ⟨ha, hb, n, hm, hbel⟩ ih
  have hbel : belF (a.length + b.length) a b = belF n us ws := hbel
  have hm : us.length + ws.length ≤ n := hm
  rcases us with _ | ⟨x, us⟩
  · rcases ws with _ | ⟨y, ws⟩
    · have e : belF n [] [] = true := by cases n <;> rfl
      rw [hbel, e]
      refine qN rfl rfl ?_
      refine qN rfl rfl ?_
      exact qR rfl ⟨rfl, rfl⟩
    · have hy := hb y (List.mem_cons_self ..)
      have c := fcmp_e hz hy (by omega)
      obtain ⟨m, rfl⟩ : ∃ m, n = m + 1 := ⟨n - 1, by simp at hm; omega⟩
      have hbel : belF (a.length + b.length) a b = if 0 < cmpQ 0 y.2 then false else belF m [] ws := hbel
      refine qN rfl rfl ?_
      refine qT rfl (decide_eq_true (by first | omega | (simp; done) | (simp; omega))) ?_
      refine qE rfl (by kernel_rfl) (by kernel_rfl) ?_
      refine qN rfl rfl ?_
      refine qN rfl rfl ?_
      refine qE rfl (by kernel_rfl) (by kernel_rfl) ?_
      refine qT rfl rfl ?_
      refine qE rfl (by kernel_rfl) (by kernel_rfl) ?_
      refine qV rfl rfl ?_
      refine qV rfl (lslT y ws rfl rfl) ?_
      refine qE rfl (by kernel_rfl) (by kernel_rfl) ?_
      refine qK rfl c rfl ?_
      by_cases hp : 0 < cmpQ 0 y.2
      · rw [hbel, if_pos hp]
        refine qT rfl (decide_eq_true hp) ?_
        exact qR rfl ⟨rfl, rfl⟩
      · have hbel := hbel.trans (if_neg hp)
        refine qN rfl (decide_eq_false hp) ?_
        refine   qB     (ih ([], ws)       ⟨ha, fun t ht => hb t (List.mem_cons_of_mem _ ht), m, by simp only [List.length_cons, List.length_nil] at hm ⊢;         omega, hbel⟩       (by simp only [List.length_cons, List.length_nil]; omega))     rfl
  · have hx := ha x (List.mem_cons_self ..)
    obtain ⟨m, rfl⟩ : ∃ m, n = m + 1 := ⟨n - 1, by simp at hm; omega⟩
    rcases ws with _ | ⟨y, ws⟩
    · have c := fcmp_e hx hz (by omega)
      have hbel : belF (a.length + b.length) a b = if 0 < cmpQ x.2 0 then false else belF m us [] := hbel
      refine qT rfl (decide_eq_true (by first | omega | (simp; done) | (simp; omega))) ?_
      refine qE rfl (by kernel_rfl) (by kernel_rfl) ?_
      refine qT rfl rfl ?_
      refine qE rfl (by kernel_rfl) (by kernel_rfl) ?_
      refine qN rfl rfl ?_
      refine qN rfl rfl ?_
      refine qE rfl (by kernel_rfl) (by kernel_rfl) ?_
      refine qV rfl rfl ?_
      refine qV rfl (lslT x us rfl rfl) ?_
      refine qE rfl (by kernel_rfl) (by kernel_rfl) ?_
      refine qK rfl c rfl ?_
      by_cases hp : 0 < cmpQ x.2 0
      · rw [hbel, if_pos hp]
        refine qT rfl (decide_eq_true hp) ?_
        exact qR rfl ⟨rfl, rfl⟩
      · have hbel := hbel.trans (if_neg hp)
        refine qN rfl (decide_eq_false hp) ?_
        refine   qB     (ih (us, [])       ⟨fun t ht => ha t (List.mem_cons_of_mem _ ht), hb, m, by simp only [List.length_cons, List.length_nil] at hm ⊢;         omega, hbel⟩       (by simp only [List.length_cons, List.length_nil]; omega))     rfl
    · have hy := hb y (List.mem_cons_self ..)
      have hbel : belF (a.length + b.length) a b = if x.1 < y.1 then (if 0 < cmpQ x.2 0 then false else belF m us (y :: ws)) else if y.1 < x.1 then (if 0 < cmpQ 0 y.2 then false else belF m (x :: us) ws) else if 0 < cmpQ x.2 y.2 then false else belF m us ws := hbel
      rcases Int.lt_trichotomy x.1 y.1 with hl | hl | hl
      · rw [if_pos hl] at hbel
        have c := fcmp_e hx hz (by omega)
        refine qT rfl (decide_eq_true (by first | omega | (simp; done) | (simp; omega))) ?_
        refine qE rfl (by kernel_rfl) (by kernel_rfl) ?_
        refine qN rfl rfl ?_
        refine qT rfl (decide_eq_true (by first | omega | (simp; done) | (simp; omega))) ?_
        refine qV rfl rfl ?_
        refine qV rfl rfl ?_
        refine qE rfl (by kernel_rfl) (by kernel_rfl) ?_
        refine qN rfl rfl ?_
        refine qT rfl (decide_eq_true (by first | omega | (simp; done) | (simp; omega))) ?_
        refine qV rfl rfl ?_
        refine qV rfl rfl ?_
        refine qE rfl (by kernel_rfl) (by kernel_rfl) ?_
        refine qT rfl (decide_eq_true (by first | omega | (simp; done) | (simp; omega))) ?_
        refine qV rfl rfl ?_
        refine qV rfl (lslT x us rfl rfl) ?_
        refine qE rfl (by kernel_rfl) (by kernel_rfl) ?_
        refine qN rfl (decide_eq_false (by first | omega | (simp; done) | (simp; omega))) ?_
        refine qK rfl c rfl ?_
        by_cases hp : 0 < cmpQ x.2 0
        · rw [hbel, if_pos hp]
          refine qT rfl (decide_eq_true hp) ?_
          exact qR rfl ⟨rfl, rfl⟩
        · have hbel := hbel.trans (if_neg hp)
          refine qN rfl (decide_eq_false hp) ?_
          refine   qB     (ih (us, y :: ws)       ⟨fun t ht => ha t (List.mem_cons_of_mem _ ht), hb, m, by simp only [List.length_cons] at hm ⊢;         omega, hbel⟩       (by simp only [List.length_cons]; omega))     rfl
      · rw [if_neg (by omega), if_neg (by omega)] at hbel
        have c := fcmp_e hx hy (by omega)
        refine qT rfl (decide_eq_true (by first | omega | (simp; done) | (simp; omega))) ?_
        refine qE rfl (by kernel_rfl) (by kernel_rfl) ?_
        refine qN rfl rfl ?_
        refine qT rfl (decide_eq_true (by first | omega | (simp; done) | (simp; omega))) ?_
        refine qV rfl rfl ?_
        refine qV rfl rfl ?_
        refine qE rfl (by kernel_rfl) (by kernel_rfl) ?_
        refine qN rfl rfl ?_
        refine qT rfl (decide_eq_true (by first | omega | (simp; done) | (simp; omega))) ?_
        refine qV rfl rfl ?_
        refine qV rfl rfl ?_
        refine qE rfl (by kernel_rfl) (by kernel_rfl) ?_
        refine qT rfl (decide_eq_true (by first | omega | (simp; done) | (simp; omega))) ?_
        refine qV rfl rfl ?_
        refine qV rfl (lslT x us rfl rfl) ?_
        refine qE rfl (by kernel_rfl) (by kernel_rfl) ?_
        refine qT rfl (decide_eq_true (by first | omega | (simp; done) | (simp; omega))) ?_
        refine qV rfl rfl ?_
        refine qV rfl (lslT y ws rfl rfl) ?_
        refine qE rfl (by kernel_rfl) (by kernel_rfl) ?_
        refine qK rfl c rfl ?_
        by_cases hp : 0 < cmpQ x.2 y.2
        · rw [hbel, if_pos hp]
          refine qT rfl (decide_eq_true hp) ?_
          exact qR rfl ⟨rfl, rfl⟩
        · have hbel := hbel.trans (if_neg hp)
          refine qN rfl (decide_eq_false hp) ?_
          refine   qB     (ih (us, ws)       ⟨fun t ht => ha t (List.mem_cons_of_mem _ ht), fun t ht => hb t (List.mem_cons_of_mem _ ht), m, by         simp only [List.length_cons] at hm ⊢; omega, hbel⟩       (by simp only [List.length_cons]; omega))     rfl
      · rw [if_neg (by omega), if_pos hl] at hbel
        have c := fcmp_e hz hy (by omega)
        refine qT rfl (decide_eq_true (by first | omega | (simp; done) | (simp; omega))) ?_
        refine qE rfl (by kernel_rfl) (by kernel_rfl) ?_
        refine qN rfl rfl ?_
        refine qT rfl (decide_eq_true (by first | omega | (simp; done) | (simp; omega))) ?_
        refine qV rfl rfl ?_
        refine qV rfl rfl ?_
        refine qE rfl (by kernel_rfl) (by kernel_rfl) ?_
        refine qN rfl rfl ?_
        refine qT rfl (decide_eq_true (by first | omega | (simp; done) | (simp; omega))) ?_
        refine qV rfl rfl ?_
        refine qV rfl rfl ?_
        refine qE rfl (by kernel_rfl) (by kernel_rfl) ?_
        refine qN rfl (decide_eq_false (by first | omega | (simp; done) | (simp; omega))) ?_
        refine qT rfl (decide_eq_true (by first | omega | (simp; done) | (simp; omega))) ?_
        refine qV rfl rfl ?_
        refine qV rfl (lslT y ws rfl rfl) ?_
        refine qE rfl (by kernel_rfl) (by kernel_rfl) ?_
        refine qK rfl c rfl ?_
        by_cases hp : 0 < cmpQ 0 y.2
        · rw [hbel, if_pos hp]
          refine qT rfl (decide_eq_true hp) ?_
          exact qR rfl ⟨rfl, rfl⟩
        · have hbel := hbel.trans (if_neg hp)
          refine qN rfl (decide_eq_false hp) ?_
          refine   qB     (ih (x :: us, ws)       ⟨ha, fun t ht => hb t (List.mem_cons_of_mem _ ht), m, by simp only [List.length_cons] at hm ⊢;         omega, hbel⟩       (by simp only [List.length_cons]; omega))     rfl
theorem mixT_sm {m : Rat} {k : Nat} (hm : SmF k m) : ∀ {l : List Trm} {s : List Rat} {j : Nat}, 1 ≤ j → (∀ t ∈ l, SmF k t.2) → (∀ x ∈ s, SmF j x) → ∀ x ∈ mixT m s l, SmF (j + l.length * (2 * k + 1)) x
  | [], s, j, _, _, hs, x, hx => (hs x hx).mono (by omega)
  | t :: l, s, j, hj, hl, hs, x, hx => by
    unfold mixT at hx
    have h1 : ∀ z ∈ s.set t.1.toNat (s.getD t.1.toNat 0 + m * t.2), SmF (j + (2 * k + 1)) z := by
      intro z hz
      rcases List.mem_or_eq_of_mem_set hz with hz | rfl
      · exact (hs z hz).mono (by omega)
      · have h2 : SmF j (s.getD t.1.toNat 0) := by
          rw [List.getD_eq_getElem?_getD]
          cases hq : s[t.1.toNat]? with
          | none => exact smF_0.mono hj
          | some v => exact hs v (List.mem_of_getElem? hq)
        exact (h2.add (hm.mul (hl t (List.mem_cons_self ..)))).mono (by omega)
    refine (mixT_sm hm (by omega) (fun t ht => hl t (List.mem_cons_of_mem _ ht)) h1 x hx).mono ?_
    rw [List.length_cons, Nat.add_mul]; omega
theorem mixS_sm {k : Nat} : ∀ {ms : List Rat} {rs : List Rw} {s : List Rat} {j : Nat}, 1 ≤ j → (∀ m ∈ ms, SmF k m) → (∀ r ∈ rs, r.Terms.length ≤ 100 ∧ ∀ t ∈ r.Terms, SmF k t.2) → (∀ x ∈ s, SmF j x) → ∀ x ∈ mixS s rs ms, SmF (j + 100 * ms.length * (2 * k + 1)) x
  | [], rs, s, j, _, _, _, hs, x, hx => by
    cases rs <;> exact (hs x hx).mono (by omega)
  | m :: ms, [], s, j, _, _, _, hs, x, hx => (hs x hx).mono (by omega)
  | m :: ms, r :: rs, s, j, hj, hm, hr, hs, x, hx => by
    unfold mixS at hx
    have h3 := hr r (List.mem_cons_self ..)
    have h4 := Nat.mul_le_mul_right (2 * k + 1) h3.1
    refine (mixS_sm (j := j + 100 * (2 * k + 1)) (by omega) (fun z hz => hm z (List.mem_cons_of_mem _ hz)) (fun z hz => hr z (List.mem_cons_of_mem _ hz)) (fun z hz => ?_) x hx).mono ?_
    · by_cases h0 : m = 0
      · rw [if_pos h0] at hz
        exact (hs z hz).mono (by omega)
      · rw [if_neg h0] at hz
        exact (mixT_sm (hm m (List.mem_cons_self ..)) hj h3.2 hs z hz).mono (by omega)
    · rw [List.length_cons, show 100 * (ms.length + 1) = 100 * ms.length + 100 by omega, Nat.add_mul]; omega
theorem mixV_sm {k : Nat} : ∀ {ms : List Rat} {rs : List Rw} {v : Rat} {j : Nat}, (∀ m ∈ ms, SmF k m) → (∀ r ∈ rs, SmF k r.Value) → SmF j v → SmF (j + ms.length * (2 * k + 1)) (mixV v rs ms)
  | [], rs, v, j, _, _, hs => by
    cases rs <;> exact hs.mono (by omega)
  | m :: ms, [], v, j, _, _, hs => hs.mono (by omega)
  | m :: ms, r :: rs, v, j, hm, hr, hs => by
    unfold mixV
    refine (mixV_sm (j := j + (2 * k + 1)) (fun z hz => hm z (List.mem_cons_of_mem _ hz)) (fun z hz => hr z (List.mem_cons_of_mem _ hz)) ?_).mono ?_
    · by_cases h0 : m = 0
      · rw [if_pos h0]; exact hs.mono (by omega)
      · rw [if_neg h0]; exact (hs.add ((hm m (List.mem_cons_self ..)).mul (hr r (List.mem_cons_self ..)))).mono (by omega)
    · rw [List.length_cons, Nat.add_mul]; omega
theorem outT_mem : ∀ {l : List Rat} {v : Nat}, ∀ t ∈ outT v l, t.2 ∈ l
  | [], v, t, h => by simp [outT] at h
  | c :: l, v, t, h => by
    unfold outT at h
    by_cases h0 : c = 0
    · rw [if_pos h0] at h
      exact List.mem_cons_of_mem _ (outT_mem t h)
    · rw [if_neg h0] at h
      rcases List.mem_cons.1 h with rfl | h
      · exact List.mem_cons_self ..
      · exact List.mem_cons_of_mem _ (outT_mem t h)
theorem mixO_sm {s : Sy} {k : Nat} {ms : List Rat} (hS : SyOk s k) (ht : ∀ r ∈ s.Rows, r.Terms.length ≤ 100) (hm : ∀ m ∈ ms, SmF k m) : ∀ t ∈ mixO s ms, SmF (1 + 100 * ms.length * (2 * k + 1)) t.2 := fun t h => by
  refine mixS_sm (Nat.le_refl 1) hm (fun r hr => ⟨ht r hr, (hS.terms r hr).2.1⟩) (fun x hx => ?_) t.2 (outT_mem t h)
  rw [List.eq_of_mem_replicate hx]; exact smF_0
def lowB (s : Sy) (g : List Trm) (y : List Frac) : Bool := sgnS s y && rtT s.N (-1) g && belF ((mixO s (y.map toQ)).length + g.length) (mixO s (y.map toQ)) g
def lowV (s : Sy) (y : List Frac) : Rat := mixV 0 s.Rows (y.map toQ)
structure YOk (y : List Frac) (k : Nat) : Prop where
  len : y.length ≤ 64
  dig : ∀ f ∈ y, f.P.Digits.length ≤ k ∧ f.Q.Digits.length ≤ k
theorem sgn_y {s : Sy} {y : List Frac} (h : sgnS s y = true) : mulS s y = true ∧ y.all rightf = true ∧ 0 ≤ s.N := by
  unfold sgnS at h
  simp only [Bool.and_eq_true] at h
  have h1 := h.1
  unfold mulS sysR at h1
  simp only [Bool.and_eq_true, btw_iff] at h1
  exact ⟨h.1, h1.2, h1.1.1.1.1.1⟩
theorem y_sm {y : List Frac} {k : Nat} (hY : YOk y k) (hr : y.all rightf = true) : ∀ m ∈ y.map toQ, SmF k m := fun m hm => by
  obtain ⟨f, hf, rfl⟩ := List.mem_map.1 hm
  exact (toQ_of (hY.dig f hf) (List.all_eq_true.1 hr f hf)).2
theorem low_e {s : Sy} {g : List Trm} {y : List Frac} {k : Nat} (hS : SyOk s k) (hk : k ≤ 70) (ht : ∀ r ∈ s.Rows, r.Terms.length ≤ 100) (hY : YOk y k) (hg : g.length ≤ 10000) (hs : ∀ t ∈ g, SmF k t.2) :
    EvF tt 84 [.v (eSy s), L (g.map eTm), L (fs y)] (.tup [.v (eF (if lowB s g y = true then toF (lowV s y) else zeroF)), B (lowB s g y)]) := by
  have h1 := dsigned_e hS (by omega) y hY.dig (by have := hY.len; omega)
  refine evF (eIn Tryz.func84 rfl rfl ?_)
  refine qK rfl h1 rfl ?_
  unfold lowB
  cases hsg : sgnS s y with
  | false =>
    refine qT rfl rfl ?_
    exact qR rfl ⟨rfl, rfl⟩
  | true =>
    obtain ⟨hm, hr, hN⟩ := sgn_y hsg
    have h2 := rterms_e hg hs (show k < 4000000 by omega) hN
    have h3 := mix_e hS (by omega) ht y hY.dig hY.len hm
    refine qN rfl rfl ?_
    refine qK rfl h2 rfl ?_
    cases hrt : rtT s.N (-1) g with
    | false =>
      refine qT rfl rfl ?_
      exact qR rfl ⟨rfl, rfl⟩
    | true =>
      have hb1 := Nat.mul_le_mul (show 100 * (y.map toQ).length ≤ 6400 by rw [List.length_map]; have := hY.len; omega) (show 2 * k + 1 ≤ 141 by omega)
      have h4 := bel_e (k := 902401) (fun t h => (mixO_sm hS ht (y_sm hY hr) t h).mono (by omega)) (fun t h => (hs t h).mono (by omega)) (by decide) (by decide)
      refine qN rfl rfl ?_
      refine qK rfl h3 rfl ?_
      refine qK rfl h4 rfl ?_
      cases hbf : belF ((mixO s (y.map toQ)).length + g.length) (mixO s (y.map toQ)) g with
      | false =>
        refine qT rfl rfl ?_
        exact qR rfl ⟨rfl, rfl⟩
      | true =>
        refine qN rfl rfl ?_
        exact qR rfl ⟨rfl, rfl⟩
theorem low_sm {s : Sy} {g : List Trm} {y : List Frac} {k : Nat} (hS : SyOk s k) (hY : YOk y k) (hl : lowB s g y = true) : SmF (1 + 64 * (2 * k + 1)) (lowV s y) := by
  unfold lowB at hl
  simp only [Bool.and_eq_true] at hl
  obtain ⟨hm, hr, hN⟩ := sgn_y hl.1.1
  refine (mixV_sm (y_sm hY hr) (fun r h => (hS.terms r h).2.2) smF_0).mono ?_
  rw [List.length_map]
  have := Nat.mul_le_mul_right (2 * k + 1) hY.len
  omega
def rftB (s : Sy) (y : List Frac) : Bool := lowB s [] y && decide (0 < sg (lowV s y).num)
theorem refutes_e {s : Sy} {y : List Frac} {k : Nat} (hS : SyOk s k) (hk : k ≤ 70) (ht : ∀ r ∈ s.Rows, r.Terms.length ≤ 100) (hY : YOk y k) : EvF tt 42 [.v (eSy s), L (fs y)] (B (rftB s y)) := by
  have h1 : EvF tt 84 [.v (eSy s), L [], L (fs y)] _ := low_e (g := []) hS hk ht hY (by simp) (fun t h => by simp at h)
  refine evF (eIn Tryz.func42 rfl rfl ?_)
  refine qK rfl h1 rfl ?_
  unfold rftB
  cases hl : lowB s [] y with
  | false =>
    refine qN rfl rfl ?_
    exact qR rfl ⟨rfl, rfl⟩
  | true =>
    have h2 := fsign_e (low_sm hS hY hl) (by omega)
    refine qT rfl rfl ?_
    refine qK rfl (h2) rfl ?_
    exact qR rfl ⟨rfl, rfl⟩
end Go.Proofs.YteekaonhdckicaaGreatDoor.Dp

namespace Go.Proofs.YteekaonhdckicaaGreatDoor.Dp
open Go Go.RowKit Go.Proofs.YteekaonhdckicaaGreatDoor.Rt Go.Proofs Go.Proofs.YteekaonhdckicaaGreatDoor.D
set_option linter.unusedVariables false
theorem idx_cut (c : UInt8) : ∀ (l : Bs), 0 ≤ Lib.indexByte l c → l = l.take (Lib.indexByte l c).toNat ++ c :: l.drop ((Lib.indexByte l c).toNat + 1)
  | [], h => by have : (0 : Int) ≤ -1 := h; omega
  | b :: l, h => by
    unfold Lib.indexByte at h ⊢
    by_cases hb : (b == c) = true
    · rw [if_pos hb]
      have := beq_iff_eq.1 hb
      subst this
      rfl
    · rw [if_neg hb] at h ⊢
      by_cases h1 : (Lib.indexByte l c == -1) = true
      · rw [if_pos h1] at h
        omega
      · rw [if_neg h1] at h ⊢
        have h2 : Lib.indexByte l c ≠ -1 := fun e => h1 (beq_iff_eq.2 e)
        have h3 : 0 ≤ Lib.indexByte l c := by omega
        have h4 : (Lib.indexByte l c + 1).toNat = (Lib.indexByte l c).toNat + 1 := by omega
        rw [h4]
        simp only [List.take_succ_cons, List.drop_succ_cons, List.cons_append]
        rw [← idx_cut c l h3]
theorem numR_of {e : UInt8} {least n : Int} {s t : Bs} (h : numR e least s = some (n, t)) : s = Lib.itoa n ++ e :: t ∧ least ≤ n ∧ -9223372036854775808 ≤ n ∧ n ≤ 9223372036854775807 := by
  unfold numR at h
  split at h
  · cases h
  · rename_i hi
    split at h
    · rename_i m hm
      have hr := atoi_rng hm
      split at h
      · rename_i hc
        cases h
        refine ⟨?_, hc.2, hr⟩
        have hi : 0 ≤ Lib.indexByte (s.take 21) e := by omega
        have h1 := idx_cut e _ hi
        have hlt := idx_lt e (s.take 21)
        rw [hc.1]
        unfold numD
        have h3 : s = s.take 21 ++ s.drop 21 := (List.take_append_drop 21 s).symm
        generalize Lib.indexByte (s.take 21) e = z at hi h1 hlt
        have h4 : s.drop (z.toNat + 1) = (s.take 21).drop (z.toNat + 1) ++ s.drop 21 := by
          conv => lhs; rw [h3]
          rw [List.drop_append_of_le_length (by omega)]
        rw [h4, ← List.cons_append, ← List.append_assoc, ← h1]
        exact h3
      · cases h
    · cases h
theorem pre1_of {c : UInt8} {s : Bs} (h : Lib.hasPrefix s [c] = true) : s = c :: Lib.trimPrefix s [c] := by
  unfold Lib.trimPrefix
  rw [if_pos h]
  cases s with
  | nil => simp [Lib.hasPrefix] at h
  | cons b l => simp [Lib.hasPrefix] at h; subst h; rfl
theorem textR_of {s x t : Bs} (h : textR s = some (x, t)) : s = wText x ++ t := by
  unfold textR at h
  split at h
  · cases h
  · rename_i n u hn
    obtain ⟨h1, h2, _, _⟩ := numR_of hn
    split at h
    · cases h
    · rename_i hle
      split at h
      · rename_i hp
        cases h
        have h3 := pre1_of hp
        have hx : (u.take n.toNat).length = n.toNat := by rw [List.length_take]; omega
        unfold wText
        rw [hx, show ((n.toNat : Nat) : Int) = n by omega, h1]
        have h4 : u = u.take n.toNat ++ u.drop n.toNat := (List.take_append_drop _ u).symm
        conv => lhs; rw [h4, h3]
        simp
      · cases h
theorem manyR_of : ∀ {k : Nat} {s t : Bs} {l : List Bs}, manyR k s = some (l, t) → s = l.flatMap wText ++ t ∧ l.length = k
  | 0, s, t, l, h => by cases h; exact ⟨rfl, rfl⟩
  | k + 1, s, t, l, h => by
    unfold manyR at h
    split at h
    · cases h
    · rename_i x u hx
      split at h
      · cases h
      · rename_i l' v hm
        cases h
        obtain ⟨h1, h2⟩ := manyR_of hm
        refine ⟨?_, by simp [h2]⟩
        rw [textR_of hx, h1, List.flatMap_cons, List.append_assoc]
def wTexts (l : List Bs) : Bs := Lib.itoa l.length ++ [91] ++ l.flatMap wText ++ [93]
theorem textsR_of {s t : Bs} {l : List Bs} (h : textsR s = some (l, t)) : s = wTexts l ++ t := by
  unfold textsR at h
  split at h
  · cases h
  · rename_i n u hn
    obtain ⟨h1, h2, _, _⟩ := numR_of hn
    split at h
    · cases h
    · rename_i l' v hm
      obtain ⟨h3, h4⟩ := manyR_of hm
      split at h
      · rename_i hp
        cases h
        have h5 := pre1_of hp
        rw [h1, h3]
        unfold wTexts
        rw [h4, show ((n.toNat : Nat) : Int) = n by omega]
        conv => lhs; rw [h5]
        simp
      · cases h
end Go.Proofs.YteekaonhdckicaaGreatDoor.Dp

namespace Go.Proofs.YteekaonhdckicaaGreatDoor.Dp
open Go Go.RowKit Go.Proofs.YteekaonhdckicaaGreatDoor.Rt Go.Proofs Go.Proofs.YteekaonhdckicaaGreatDoor.D
set_option linter.unusedVariables false
set_option maxHeartbeats 4000000
set_option maxRecDepth 100000
theorem vBytes_app (a b : Bs) : vBytes (a ++ b) = vBytes a ++ vBytes b := by simp [vBytes]
theorem bytesV_v : ∀ l : Bs, bytesV (vBytes l) = some l
  | [] => rfl
  | c :: l => by
    have e : (UInt8.ofNat ((c.toNat : Int)).toNat) = c := by simp
    have h : bytesV (vBytes (c :: l)) = match decide ((c.toNat : Int) = (UInt8.ofNat (c.toNat : Int).toNat).toNat) with
      | true => match bytesV (vBytes l) with
        | some r => some (UInt8.ofNat (c.toNat : Int).toNat :: r)
        | none => none
      | false => none := rfl
    rw [h, e, bytesV_v l, decide_eq_true rfl]
theorem bytesQ_v {l : Bs} (h : l ≠ []) : bytesQ (vBytes l) = some l := by
  unfold bytesQ
  rw [bytesV_v]
  cases l with
  | nil => exact absurd rfl h
  | cons c l => rfl
abbrev bldB (d a : Bool) (c : DV) (l : Bs) : DH := [⟨0, 0, false, d, false, .box 192 [c, .row 1 0]⟩, ⟨0, 0, false, a, a, .row 5 1 (vBytes l)⟩]
theorem wstr_0 {s : Bs} (hl : s.length ≤ 1000000000) : EvH tt 138 [.bp 0 0, S s] (bldB false false (.v (.val (.pointer none))) []) (.tup [I s.length, .v (.val .nilIface)]) (bldB true true (.bp 0 0) s) := by
  refine evF (eInH 2 Tryz.func138 rfl rfl rfl ?_)
  refine qA 1 rfl rfl ?_ ?_; rotate_left
  exact qR rfl ⟨rfl, rfl⟩
  all_goals (simp [vBytes]; omega)
theorem wstr_1 {s l : Bs} (hl : s.length + l.length ≤ 1000000000) : EvH tt 138 [.bp 0 0, S s] (bldB false false (.bp 0 0) l) (.tup [I s.length, .v (.val .nilIface)]) (bldB true true (.bp 0 0) (l ++ s)) := by
  refine evF (eInH 2 Tryz.func138 rfl rfl rfl ?_)
  refine qA 1 rfl rfl ?_ ?_; rotate_left
  refine qR rfl ?_; rotate_left
  · simp [vBytes]; omega
  · exact ⟨rfl, by unfold bldB; rw [vBytes_app]; rfl⟩
theorem flatW_len {l : List Bs} (h : ∀ x ∈ l, x.length ≤ 1000000) : (l.flatMap wText).length ≤ l.length * 1000022 := by
  induction l with
  | nil => simp
  | cons x l ih =>
    have h1 := ih fun y hy => h y (List.mem_cons_of_mem _ hy)
    have h2 := h x (by simp)
    have h3 := itoa_len20 h2
    rw [List.flatMap_cons, List.length_append, List.length_cons]
    have : (wText x).length = (Lib.itoa (x.length : Int)).length + 1 + x.length + 1 := by unfold wText; simp; omega
    omega
theorem list_e {l : List Bs} (h : ∀ x ∈ l, x.length ≤ 1000000) (hl : l.length ≤ 100) : EvF tt 77 [L (ss l), .v (.clo 78 [] [])] (S (wTexts l)) := by
  refine evF (eIn Tryz.func77 rfl rfl ?_)
  have hsl : (ss l).length = l.length := List.length_map ..
  have hit := itoa_len20 (n := (ss l).length) (by omega)
  refine qK rfl (itoa_e (n := ((ss l).length : Int)) (by omega) (by omega)) rfl ?_
  have hw0 := wstr_0 (s := Lib.itoa ((ss l).length : Int) ++ [91]) (by rw [List.length_append]; show _ + 1 ≤ _; omega)
  refine qS rfl (by show _ + 1 ≤ _; omega) ?_
  refine qK rfl (hw0) rfl ?_
  have hfl := flatW_len h
  have hflt : ∀ k, ((l.take k).flatMap wText).length ≤ (l.flatMap wText).length := fun k => by
    conv => rhs; rw [← List.take_append_drop k l, List.flatMap_append, List.length_append]
    omega
  have hmul : l.length * 1000022 ≤ 100 * 1000022 := Nat.mul_le_mul_right _ hl
  refine qF l.length (fun z _ => [(15, I z)]) (fun _ q => [(1, .row 5 1 (vBytes q))]) (fun k q => q = Lib.itoa ((ss l).length : Int) ++ [91] ++ (l.take k).flatMap wText) (Lib.itoa ((ss l).length : Int) ++ [91]) rfl rfl (by simp) ?_
  rintro k q hk hq ih
  have hq : q = Lib.itoa ((ss l).length : Int) ++ [91] ++ (l.take k).flatMap wText := hq
  have hql : q.length ≤ 200000000 := by
    have := hflt k
    rw [hq]; simp only [List.length_append, List.length_singleton]; omega
  refine qXl rfl rfl rfl hk (fun x hx hd hlt => ?_) (fun hd hk => ?_)
  · have hxl := h x (List.mem_of_getElem? hx)
    have hwx := wtext_e hxl
    have hxw : (wText x).length ≤ 1000022 := by
      have h3 := itoa_len20 hxl
      have : (wText x).length = (Lib.itoa (x.length : Int)).length + 1 + x.length + 1 := by unfold wText; simp; omega
      omega
    have hw1 := wstr_1 (s := wText x) (l := q) (by omega)
    refine qK rfl (hwx) rfl ?_
    refine qK rfl (hw1) rfl ?_
    refine qB (ih _ (q ++ wText x) (next64 (by omega)) hlt ?_) (by kernel_rfl); rotate_left
    rw [hq, take_at hx]; simp
  · have hne : q ≠ [] := by rw [hq]; simp
    refine qV rfl (bytesQ_v hne) ?_
    refine qS rfl (by show _ + 1 ≤ _; omega) ?_
    refine qR rfl ⟨congrArg S ?_, rfl⟩
    rw [hq, hk, List.take_length, hsl]
    rfl
theorem texts_e {l : List Bs} (h : ∀ x ∈ l, x.length ≤ 1000000) (hl : l.length ≤ 100) : EvF tt 34 [L (ss l)] (S (wTexts l)) := by
  refine evF (eIn Tryz.func34 rfl rfl ?_)
  refine qK rfl (list_e h hl) rfl ?_
  exact qR rfl ⟨rfl, rfl⟩
def textP (l : List Frac) : Bs := if l.all rightf = true then wTexts (l.map textF) else []
theorem wrong_e {f : Frac} {k : Nat} (hp : f.P.Digits.length ≤ k) (hq : f.Q.Digits.length ≤ k) (hk : k < 8388608) : EvF tt 32 [.v (eF f)] (B (!rightf f)) := by
  refine evF (eIn Tryz.func32 rfl rfl ?_)
  refine qK rfl (fright_e hp hq hk) rfl ?_
  exact qR rfl ⟨rfl, rfl⟩
theorem textF_len {f : Frac} {k : Nat} (hp : f.P.Digits.length ≤ k) (hq : f.Q.Digits.length ≤ k) : (textF f).length ≤ 14 * k + 5 := by
  by_cases hr : rightf f = true
  · obtain ⟨r, rfl, h1, h2⟩ := rat_of ⟨hp, hq⟩ hr
    rw [textF_toF]
    have a1 := txt_len h1
    have a2 := txt_len h2
    simp; omega
  · unfold textF; rw [if_neg hr]; simp
theorem ptext_e {l : List Frac} {k : Nat} (hp : ∀ f ∈ l, f.P.Digits.length ≤ k ∧ f.Q.Digits.length ≤ k) (hk : k ≤ 1000) (hl : l.length ≤ 100) : EvF tt 10 [L (fs l)] (S (textP l)) := by
  refine evF (eIn Tryz.func10 rfl rfl ?_)
  refine qF l.length (fun z _ => [(8, I z)]) (fun _ q => [(0, .row 9 1 q)]) (fun k q => q = ss ((l.take k).map textF) ∧ (l.take k).all rightf = true) [] rfl rfl ⟨rfl, rfl⟩ ?_
  rintro j q hj ⟨hq, ha⟩ ih
  have hq : q = ss ((l.take j).map textF) := hq
  have ha : (l.take j).all rightf = true := ha
  have hlen : q.length ≤ 100 := by rw [hq]; simp; omega
  refine qXl rfl rfl rfl hj (fun x hx hd hlt => ?_) (fun hd hj => ?_)
  · obtain ⟨h1, h2⟩ := hp x (List.mem_of_getElem? hx)
    have hw := wrong_e h1 h2 (by omega)
    have ht := ftext_all h1 h2 (by omega)
    refine qK rfl (hw) rfl ?_
    refine qC rfl (fun h => ?_) (fun h => ?_)
    refine qR rfl ⟨congrArg S ?_, rfl⟩; rotate_left
    refine qK rfl (ht) rfl ?_
    refine qA 16 rfl rfl ?_ ?_; rotate_left
    refine qB (ih _ _ (next64 (by omega)) hlt ?_) rfl; rotate_left
    all_goals clear ih
    · have hn : ¬ l.all rightf = true := fun h' => by
        have := List.all_eq_true.1 h' x (List.mem_of_getElem? hx)
        rw [this] at h; exact absurd h (by decide)
      unfold textP
      rw [if_neg hn]; try rfl
    · simp; omega
    · refine ⟨?_, ?_⟩
      · show q ++ [VT.str (textF x)] = _
        rw [hq, take_at hx]; simp
      · rw [take_at hx, List.all_append, ha]
        simp at h ⊢; exact h
  · have hall : l.all rightf = true := by rw [hj, List.take_length] at ha; exact ha
    have hte := texts_e (l := l.map textF) (fun y hy => by
      obtain ⟨f, hf, rfl⟩ := List.mem_map.1 hy
      have := textF_len (hp f hf).1 (hp f hf).2
      omega) (by rw [List.length_map]; exact hl)
    rw [hq, hj, List.take_length]
    refine qK rfl (hte) rfl ?_
    refine qR rfl ⟨congrArg S ?_, rfl⟩; rotate_left
    unfold textP
    rw [if_pos hall]
    try rfl
end Go.Proofs.YteekaonhdckicaaGreatDoor.Dp

namespace Go.Proofs.YteekaonhdckicaaGreatDoor.Dp
open Go Go.RowKit Go.Proofs.YteekaonhdckicaaGreatDoor.Rt Go.Proofs Go.Proofs.YteekaonhdckicaaGreatDoor.D
set_option linter.unusedVariables false
set_option maxHeartbeats 4000000
set_option maxRecDepth 100000
theorem intsQ_of : ∀ l : List Int, intsQ (ns l) = some l
  | [] => rfl
  | x :: l => by show (match intsQ (ns l) with | some r => some (x :: r) | none => none) = _; rw [intsQ_of l]
abbrev srt (l : List Int) : List Int := l.mergeSort (fun x y => decide (x ≤ y))
theorem values_x (l : List Int) : EvF tt 87 [L (ns l)] (.v (.clo 154 [] [.el (.agg [.sl (ns l)]) 0])) := EvF.ext (g := xValues) rfl rfl rfl
theorem sorted_x (l : List Int) (hl : l.length < 1000000) : EvF tt 86 [.v (.clo 154 [] [.el (.agg [.sl (ns l)]) 0])] (L (ns (srt l))) := EvF.ext (g := xSorted) rfl rfl (by
  show (match true, intsQ (ns l) with
    | true, some l => okB (decide (l.length < 1000000)) (.v (.sl ((l.mergeSort (fun x y => decide (x ≤ y))).map (VT.int .i64))))
    | _, _ => none) = _
  rw [intsQ_of]
  show okB (decide (l.length < 1000000)) _ = _
  rw [decide_eq_true hl]; rfl)
def sumV (l : List Int) : List Trm := (srt l).map fun v => (v, 1)
theorem psum_e (l : List Int) (hl : l.length < 1000000) : EvF tt 41 [L (ns l)] (L ((sumV l).map eTm)) := by
  have h1 : EvF tt 18 [I 1] (.v (eF (toF 1))) := fint_e (x := 1) (by decide) (by decide)
  refine evF (eIn Tryz.func41 rfl rfl ?_)
  refine qK rfl (values_x _) rfl ?_
  refine qK rfl (sorted_x _ hl) rfl ?_
  have hsl : (srt l).length = l.length := List.length_mergeSort ..
  refine qF (srt l).length (fun z _ => [(11, I z)]) (fun _ o => [(0, .row 143 5 o)]) (fun j o => o = (((srt l).take j).map fun v => (v, (1 : Rat))).map eTm) [] rfl rfl rfl ?_
  rintro j o hj rfl ih
  refine qXl rfl rfl rfl hj (fun v hv hd hlt => ?_) (fun hd hj => ?_)
  · refine qK rfl (h1) rfl ?_
    refine qA 72 rfl rfl ?_ ?_; rotate_left
    refine qB (ih _ _ (next64 (by omega)) hlt (by rw [take_at hv, List.map_append, List.map_append]; rfl)) rfl
    all_goals clear ih
    all_goals simp
    all_goals omega
  · rw [hj, List.take_length]
    exact qR rfl ⟨rfl, rfl⟩
    all_goals clear ih
    all_goals rfl
theorem atleast_e {s : Sy} {g : List Trm} {y : List Frac} {k : Nat} {x : Rat} (hS : SyOk s k) (hk : k ≤ 70) (ht : ∀ r ∈ s.Rows, r.Terms.length ≤ 100) (hY : YOk y k) (hg : g.length ≤ 10000) (hs : ∀ t ∈ g, SmF k t.2) (hx : SmF k x) :
    EvF tt 40 [.v (eSy s), L (g.map eTm), L (fs y), .v (eF (toF x))] (B (lowB s g y && decide (0 ≤ cmpQ (lowV s y) x))) := by
  refine evF (eIn Tryz.func40 rfl rfl ?_)
  refine qK rfl (low_e hS hk ht hY hg hs) rfl ?_
  cases hl : lowB s g y with
  | false =>
    refine qN rfl rfl ?_
    exact qR rfl ⟨rfl, rfl⟩
  | true =>
    have h1 := fcmp_e ((low_sm hS hY hl).mono (show _ ≤ 20000 by omega)) (hx.mono (show _ ≤ 20000 by omega)) (by omega)
    refine qT rfl rfl ?_
    refine qK rfl (h1) rfl ?_
    exact qR rfl ⟨rfl, rfl⟩
end Go.Proofs.YteekaonhdckicaaGreatDoor.Dp

namespace Go.Proofs.YteekaonhdckicaaGreatDoor.Dp
open Go Go.RowKit Go.Proofs.YteekaonhdckicaaGreatDoor.Rt Go.Proofs Go.Proofs.YteekaonhdckicaaGreatDoor.D
set_option linter.unusedVariables false
theorem zipI_mem {α : Type} : ∀ {l : List α} {i : Nat} {p : Nat × α}, p ∈ zipI i l → p.2 ∈ l
  | [], _, _, h => by simp [zipI] at h
  | x :: l, i, p, h => by
    simp only [zipI] at h
    rcases List.mem_cons.1 h with rfl | h
    · exact List.mem_cons_self ..
    · exact List.mem_cons_of_mem _ (zipI_mem h)
theorem zipI_len {α : Type} : ∀ {l : List α} {i : Nat}, (zipI i l).length = l.length
  | [], _ => rfl
  | x :: l, i => by simp only [zipI, List.length_cons]; rw [zipI_len]
structure RwOk (r : Rw) : Prop where
  len : r.Terms.length ≤ 100
  co : ∀ t ∈ r.Terms, SmF 20 t.2
  val : SmF 20 r.Value
theorem smF_i {x : Int} (h : x.natAbs < 18446744073709551616) : SmF 20 (x : Rat) := (smF_int h).mono (by omega)
theorem sumT_ok {e : Evi} {i : Nat} {a own more : Int} (h1 : a.natAbs ≤ 10000) (h2 : more.natAbs ≤ 10000) : ∀ t ∈ sumT e i a own more, SmF 20 t.2 := fun t ht => by
  unfold sumT at ht
  obtain ⟨mat, _, h3⟩ := List.mem_filterMap.1 ht
  unfold sumT1 at h3
  dsimp only at h3
  split at h3
  · split at h3
    · cases h3
    · cases h3
      exact smF_i (by omega)
  · split at h3
    · cases h3
    · cases h3
      exact smF_i (by omega)
theorem sumT_len {e : Evi} {i : Nat} {a own more : Int} : (sumT e i a own more).length ≤ e.Materials.toNat := by
  unfold sumT
  refine Nat.le_trans (List.length_filterMap_le ..) ?_
  rw [List.length_range]; exact Nat.le_refl _
theorem smF_z : SmF 20 (0 : Rat) := smF_0.mono (by omega)
theorem stks_ok {e : Evi} {i : Nat} {x : Mve} (hm : e.Moves.length ≤ 100) : ∀ p ∈ stks e i x, RwOk p.1 := fun p hp => by
  unfold stks at hp
  split at hp
  · simp at hp
  · obtain ⟨mat, _, rfl⟩ := List.mem_map.1 hp
    refine ⟨?_, fun t ht => ?_, smF_z⟩
    · refine Nat.le_trans (List.length_filterMap_le ..) ?_
      rw [zipI_len, List.length_take]; omega
    · obtain ⟨q, _, h3⟩ := List.mem_filterMap.1 ht
      unfold stkT1 at h3
      split at h3
      · cases h3
        exact smF_i (x := -1) (by decide)
      · split at h3
        · cases h3
          exact smF_i (x := 1) (by decide)
        · cases h3
theorem SmF.sub' {j k : Nat} {a b : Rat} (ha : SmF j a) (hb : SmF k b) : SmF (j + k + 1) (a - b) := by
  rw [Rat.sub_eq_add_neg]; exact ha.add hb.neg
theorem itvl_ok {e : Evi} {x : Mve} {lo hi : Rat} (h : itvl e x = some (lo, hi)) : SmF 20 lo ∧ SmF 20 hi := by
  unfold itvl at h
  split at h
  · split at h
    · cases h
    · split at h
      · rename_i c _
        split at h
        · rename_i hc
          have h1 := smF_err hc
          have hb := hc.2
          rw [btw_iff] at hb
          have h2 : SmF 4 (x.Reading : Rat) := smF_int (by omega)
          simp only [Option.some.injEq, Prod.mk.injEq] at h
          obtain ⟨rfl, rfl⟩ := h
          refine ⟨?_, (h2.add h1).mono (by omega)⟩
          unfold maxQ
          split
          · exact smF_z
          · exact (h2.sub' h1).mono (by omega)
        · cases h
      · cases h
  · cases h
theorem wgts_ok {e : Evi} {i : Nat} {x : Mve} (hM : e.Materials ≤ 100) : ∀ p ∈ wgts e i x, RwOk p.1 := fun p hp => by
  unfold wgts at hp
  split at hp
  · simp at hp
  · split at hp
    · simp at hp
    · rename_i lo hi hit
      obtain ⟨h1, h2⟩ := itvl_ok hit
      have hl := sumT_len (e := e) (i := i) (a := 1) (own := -1) (more := 0)
      have hc := sumT_ok (e := e) (i := i) (a := 1) (own := -1) (more := 0) (by decide) (by decide)
      simp only [List.mem_cons, List.not_mem_nil, or_false] at hp
      rcases hp with rfl | rfl
      · exact ⟨by show (sumT _ _ _ _ _).length ≤ _; omega, hc, h1⟩
      · exact ⟨by show (sumT _ _ _ _ _).length ≤ _; omega, hc, h2⟩
theorem purs_ok {e : Evi} {i : Nat} (h : Good e) : ∀ p ∈ purs e i, RwOk p.1 := fun p hp => by
  unfold purs at hp
  obtain ⟨q, hq, hp⟩ := List.mem_flatMap.1 hp
  obtain ⟨k1, k2, k3⟩ := h.purs q.2 (zipI_mem hq)
  have hM := h.mat
  unfold purs1 at hp
  split at hp
  · have hl1 := sumT_len (e := e) (i := i) (a := -q.2.Least) (own := q.2.Material) (more := 1000)
    have hc1 := sumT_ok (e := e) (i := i) (a := -q.2.Least) (own := q.2.Material) (more := 1000) (by omega) (by decide)
    have hl2 := sumT_len (e := e) (i := i) (a := q.2.Most) (own := q.2.Material) (more := -1000)
    have hc2 := sumT_ok (e := e) (i := i) (a := q.2.Most) (own := q.2.Material) (more := -1000) (by omega) (by decide)
    simp only [List.mem_cons, List.not_mem_nil, or_false] at hp
    rcases hp with rfl | rfl
    · exact ⟨by show (sumT _ _ _ _ _).length ≤ _; omega, hc1, smF_z⟩
    · exact ⟨by show (sumT _ _ _ _ _).length ≤ _; omega, hc2, smF_z⟩
  · simp at hp
theorem rowsE_ok {e : Evi} (h : Good e) (hm : e.Moves.length ≤ 100) : ∀ p ∈ rowsE e, RwOk p.1 := fun p hp => by
  unfold rowsE at hp
  obtain ⟨q, hq, hp⟩ := List.mem_flatMap.1 hp
  unfold rows1 at hp
  have hM := h.mat
  rcases List.mem_append.1 hp with hp | hp
  · rcases List.mem_append.1 hp with hp | hp
    · exact stks_ok hm p hp
    · exact wgts_ok (by omega) p hp
  · exact purs_ok h p hp
theorem len_flat {α β : Type} {f : α → List β} {k : Nat} : ∀ {l : List α}, (∀ x ∈ l, (f x).length ≤ k) → (l.flatMap f).length ≤ l.length * k
  | [], _ => by simp
  | x :: l, h => by
    have h1 := len_flat (l := l) fun y hy => h y (List.mem_cons_of_mem _ hy)
    have h2 := h x (List.mem_cons_self ..)
    rw [List.flatMap_cons, List.length_append, List.length_cons, Nat.add_mul]; omega
theorem sys_ok {e : Evi} (h : Good e) (hm : e.Moves.length ≤ 100) : SyOk (sysE e) 20 ∧ ∀ r ∈ (sysE e).Rows, r.Terms.length ≤ 100 := by
  have hr : ∀ r ∈ (sysE e).Rows, RwOk r := fun r hr => by
    obtain ⟨p, hp, rfl⟩ := List.mem_map.1 hr
    exact rowsE_ok h hm p hp
  refine ⟨⟨?_, fun r h1 => ⟨by have := (hr r h1).len; omega, (hr r h1).co, (hr r h1).val⟩⟩, fun r h1 => (hr r h1).len⟩
  show ((rowsE e).map _).length ≤ _
  rw [List.length_map]
  have := len_flat (l := zipI 0 e.Moves) (f := rows1 e) (k := 408) fun q _ => len_rows1 h q
  rw [zipI_len] at this
  unfold rowsE
  omega
end Go.Proofs.YteekaonhdckicaaGreatDoor.Dp

namespace Go.Proofs.YteekaonhdckicaaGreatDoor.Dp
open Go Go.RowKit Go.Proofs.YteekaonhdckicaaGreatDoor.Rt Go.Proofs Go.Proofs.YteekaonhdckicaaGreatDoor.D
set_option linter.unusedVariables false
set_option maxHeartbeats 4000000
set_option maxRecDepth 100000
structure ELen (e : Evi) : Prop where
  plc : e.Places.length < 1000000
  mov : e.Moves.length ≤ 100
  crt : e.Certs.length < 1000000
  rcl : e.Recalls.length < 1000000
  pur : e.Purities.length < 1000000
theorem sys_e {e : Evi} (h : ELen e) : EvF tt 15 [.v (eEv e)] (.tup [.v (eSy (if flowC e = 0 then sysE e else ⟨0, []⟩)), I (flowC e)]) := system_e e h.plc (by have := h.mov; omega) h.crt h.rcl h.pur
def impB (e : Evi) (y : List Frac) : Bool := decide (flowC e = 0) && rftB (sysE e) y
theorem impos_e {e : Evi} {y : List Frac} (h : ELen e) (hY : YOk y 20) : EvF tt 14 [.v (eEv e), L (fs y)] (B (impB e y)) := by
  refine evF (eIn Tryz.func14 rfl rfl ?_)
  refine qK rfl (sys_e h) rfl ?_
  unfold impB
  by_cases hf : flowC e = 0
  · rw [hf, if_pos rfl]
    obtain ⟨h1, h2⟩ := sys_ok (flow_good hf) h.mov
    refine qT rfl rfl ?_
    refine qK rfl (refutes_e h1 (by omega) h2 hY) rfl ?_
    exact qR rfl ⟨rfl, rfl⟩
  · rw [if_neg hf]
    refine qN rfl (by simp [hf]) ?_
    refine qR rfl ⟨congrArg B ?_, rfl⟩; rotate_left
    all_goals simp [hf]
def toKind (e : Evi) (i : Int) : Int := match e.Moves[i.toNat]? with
  | some m => kindAt e m.To
  | none => -1
def papV (e : Evi) (mat : Int) : Int → List Int → Option (List Int)
  | _, [] => some []
  | last, i :: l => if i ≤ last ∨ (e.Moves.length : Int) ≤ i ∨ toKind e i ≠ 5 then none else match papV e mat i l with
    | none => none
    | some r => some ((i * e.Materials + mat) :: r)
def papG (e : Evi) (b : Bch) (grams : Int) : Bool := decide (flowC e = 0) && decide (0 ≤ grams) && decide (grams ≤ 1099511627776) && decide (b.Moves ≠ []) && decide (0 ≤ b.Material) && decide (b.Material < e.Materials)
def papB (e : Evi) (b : Bch) (grams : Int) (y : List Frac) : Bool := papG e b grams && match papV e b.Material (-1) b.Moves with
  | none => false
  | some l => lowB (sysE e) (sumV l) y && decide (0 ≤ cmpQ (lowV (sysE e) y) (grams : Rat))
theorem paper_e {e : Evi} {b : Bch} {grams : Int} {y : List Frac} (h : ELen e) (hY : YOk y 20) (hb : b.Moves.length ≤ 1000) : EvF tt 13 [.v (eEv e), .v (eBt b), I grams, L (fs y)] (B (papB e b grams y)) := by
  refine evF (eIn Tryz.func13 rfl rfl ?_)
  refine qK rfl (sys_e h) rfl ?_
  have hno : papG e b grams = false → papB e b grams y = false := fun h => by unfold papB; rw [h]; rfl
  by_cases hf : flowC e = 0
  · have hG := flow_good hf
    rw [hf, if_pos rfl]
    obtain ⟨h1, h2⟩ := sys_ok hG h.mov
    refine qN rfl rfl ?_
    by_cases g1 : grams < 0
    · rw [hno (by simp [papG]; omega)]
      refine qT rfl (decide_eq_true (by first | omega | (simp; done) | (simp; omega))) ?_
      exact qR rfl ⟨rfl, rfl⟩
    refine qN rfl (decide_eq_false g1) ?_
    by_cases g2 : 1099511627776 < grams
    · rw [hno (by simp [papG]; omega)]
      refine qT rfl (decide_eq_true (by first | omega | (simp; done) | (simp; omega))) ?_
      exact qR rfl ⟨rfl, rfl⟩
    refine qN rfl (decide_eq_false g2) ?_
    by_cases g3 : b.Moves = []
    · rw [hno (by simp [papG, g3])]
      refine qT rfl (by rw [g3]; rfl) ?_
      exact qR rfl ⟨rfl, rfl⟩
    have g3' : b.Moves.length ≠ 0 := fun h => g3 (List.eq_nil_of_length_eq_zero h)
    refine qN rfl (decide_eq_false (by rw [List.length_map]; omega)) ?_
    by_cases g4 : b.Material < 0
    · rw [hno (by simp [papG]; omega)]
      refine qT rfl (decide_eq_true (by first | omega | (simp; done) | (simp; omega))) ?_
      exact qR rfl ⟨rfl, rfl⟩
    refine qN rfl (decide_eq_false g4) ?_
    by_cases g5 : e.Materials ≤ b.Material
    · rw [hno (by simp [papG]; omega)]
      refine qT rfl (decide_eq_true (by first | omega | (simp; done) | (simp; omega))) ?_
      exact qR rfl ⟨rfl, rfl⟩
    refine qN rfl (decide_eq_false g5) ?_
    have hyes : papG e b grams = true := by simp [papG, hf, g3]; omega
    have hpb : papB e b grams y = match papV e b.Material (-1) b.Moves with
      | none => false
      | some l => lowB (sysE e) (sumV l) y && decide (0 ≤ cmpQ (lowV (sysE e) y) (grams : Rat)) := by unfold papB; rw [hyes]; rfl
    rw [hpb]
    have hM := hG.mat
    have hmv := h.mov
    refine qF b.Moves.length (fun z q => [(51, I z), (11, I q.1)]) (fun _ q => [(0, .row 3 1 q.2)]) (fun j (q : Int × List VT) => ∃ vars : List Int, q.2 = ns vars ∧ -1 ≤ q.1 ∧ q.1 < 100 ∧ vars.length = j ∧ papV e b.Material (-1) b.Moves = (papV e b.Material q.1 (b.Moves.drop j)).map (vars ++ ·)) (-1, []) rfl rfl ⟨[], rfl, by decide, by decide, rfl, by rw [List.drop_zero]; cases papV e b.Material (-1) b.Moves <;> rfl⟩ ?_
    rintro j ⟨last, ts⟩ hj ⟨vars, hts, l1, l2, l3, l4⟩ ih
    obtain rfl : ts = ns vars := hts
    refine qXl rfl rfl rfl hj (fun i hi hd hlt => ?_) (fun hd hj => ?_)
    · rw [hd] at l4
      have l4 : papV e b.Material (-1) b.Moves = (if i ≤ last ∨ (e.Moves.length : Int) ≤ i ∨ toKind e i ≠ 5 then none else match papV e b.Material i (b.Moves.drop (j + 1)) with
        | none => none
        | some r => some ((i * e.Materials + b.Material) :: r)).map (vars ++ ·) := l4
      have l1 : -1 ≤ last := l1
      have l3 : vars.length = j := l3
      by_cases c1 : i ≤ last
      · rw [l4, if_pos (Or.inl c1)]
        clear ih
        refine qT rfl (decide_eq_true c1) ?_
        refine qE rfl (by kernel_rfl) (by kernel_rfl) ?_
        exact qR rfl ⟨rfl, rfl⟩
      refine qN rfl (decide_eq_false c1) ?_
      by_cases c2 : (e.Moves.length : Int) ≤ i
      · rw [l4, if_pos (Or.inr (Or.inl c2))]
        clear ih
        refine qT rfl (decide_eq_true (by rw [List.length_map]; exact c2)) ?_
        refine qE rfl (by kernel_rfl) (by kernel_rfl) ?_
        exact qR rfl ⟨rfl, rfl⟩
      refine qN rfl (decide_eq_false (by rw [List.length_map]; exact c2)) ?_
      have hml : i.toNat < e.Moves.length := by omega
      have hm := List.getElem?_eq_getElem hml
      generalize e.Moves[i.toNat] = m at hm
      have hmr := hG.mv m (List.mem_of_getElem? hm)
      have hto : idx m.To e.Places.length = true := by
        unfold movR at hmr
        split at hmr
        · cases hmr
        · rename_i hn
          simp only [not_or] at hn
          simpa using hn.2.1
      rw [idx_iff] at hto
      have hpl : m.To.toNat < e.Places.length := by omega
      have hp := List.getElem?_eq_getElem hpl
      generalize e.Places[m.To.toNat] = p at hp
      have hk : toKind e i = p.Kind := by
        unfold toKind
        rw [hm]
        show kindAt e m.To = _
        unfold kindAt
        rw [hp]
      refine qXi rfl (by omega) hm ?_
      refine qXi rfl hto.1 hp ?_
      refine qE rfl (by kernel_rfl) (by kernel_rfl) ?_
      by_cases c3 : p.Kind ≠ 5
      · rw [l4, if_pos (Or.inr (Or.inr (by rw [hk]; exact c3)))]
        clear ih
        refine qT rfl (by simpa using c3) ?_
        exact qR rfl ⟨rfl, rfl⟩
      refine qN rfl (by simpa using c3) ?_
      have hb1 : i * e.Materials ≤ 100 * 6 := Int.mul_le_mul (by omega) (by omega) (by omega) (by omega)
      have hb2 : 0 ≤ i * e.Materials := Int.mul_nonneg (by omega) (by omega)
      have ea : iadd .i64 (imul .i64 i e.Materials) b.Material = i * e.Materials + b.Material := by rw [imul_i64 (by omega) (by omega), iadd_i64 (by omega) (by omega)]
      rw [if_neg (by rw [hk]; omega)] at l4
      have hq := fun (ts : List VT) (h : ts = ns (vars ++ [i * e.Materials + b.Material])) => ih ((j + 1 : Nat) : Int) (i, ts) rfl hlt ⟨vars ++ [i * e.Materials + b.Material], h, by show -1 ≤ i; omega, by show i < 100; omega, by rw [List.length_append, l3]; rfl, by rw [l4]; cases papV e b.Material i (b.Moves.drop (j + 1)) <;> simp⟩
      clear ih
      rw [← next64 (by omega)] at hq
      refine qA 8 rfl rfl ?_ ?_; rotate_left
      refine qB (hq _ ?_) rfl; rotate_left
      · simp; omega
      · show ns vars ++ [N (iadd .i64 (imul .i64 i e.Materials) b.Material)] = (vars ++ [i * e.Materials + b.Material]).map N
        rw [ea, List.map_append]; rfl
    · rw [hd] at l4
      clear ih
      have l4 : papV e b.Material (-1) b.Moves = some vars := by rw [l4]; show some (vars ++ []) = _; rw [List.append_nil]
      have l3 : vars.length = j := l3
      rw [l4]
      have hps := psum_e vars (by omega)
      have hgi : EvF tt 18 [I grams] (.v (eF (toF (grams : Rat)))) := fint_e (by omega) (by omega)
      have hal := atleast_e (g := sumV vars) (x := (grams : Rat)) h1 (by omega) h2 hY (by unfold sumV; rw [List.length_map]; show (srt vars).length ≤ _; rw [List.length_mergeSort]; omega) (fun t ht => by
        unfold sumV at ht
        obtain ⟨v, _, rfl⟩ := List.mem_map.1 ht
        exact smF_i (x := 1) (by decide)) (smF_i (by omega))
      refine qK rfl (hps) rfl ?_
      refine qK rfl (hgi) rfl ?_
      refine qK rfl (hal) rfl ?_
      refine qE rfl (by kernel_rfl) (by kernel_rfl) ?_
      exact qR rfl ⟨rfl, rfl⟩
  · rw [hno (by simp [papG, hf]), if_neg hf]
    refine qT rfl (by simp [hf]) ?_
    exact qR rfl ⟨rfl, rfl⟩
end Go.Proofs.YteekaonhdckicaaGreatDoor.Dp

namespace Go.Proofs.YteekaonhdckicaaGreatDoor.Dp
open Go Go.RowKit Go.Proofs.YteekaonhdckicaaGreatDoor.Rt Go.Proofs Go.Proofs.YteekaonhdckicaaGreatDoor.D
set_option linter.unusedVariables false
def addP (e : Evi) (p : Pur) : Evi := ⟨e.Materials, e.Households, e.Scales, e.Places, e.Moves, e.Certs, e.Recalls, e.Purities ++ [p]⟩
def newO (n : Nat) (o : Org) : Bool := (decide (o.Kind = 3) || decide (o.Kind = 4)) && decide (o.Index = n)
theorem zipI_app {α : Type} : ∀ (l : List α) (i : Nat) (a : α), zipI i (l ++ [a]) = zipI i l ++ [(i + l.length, a)]
  | [], _, _ => rfl
  | x :: l, i, a => by
    simp only [List.cons_append, zipI, List.length_cons]
    rw [zipI_app l (i + 1) a, show i + 1 + l.length = i + (l.length + 1) by omega]
theorem purs_add (e : Evi) (p : Pur) (i : Nat) : purs (addP e p) i = purs e i ++ purs1 e i (e.Purities.length, p) := by
  show ((zipI 0 (e.Purities ++ [p])).flatMap (purs1 (addP e p) i)) = _
  rw [zipI_app, List.flatMap_append, Nat.zero_add, List.flatMap_singleton]; rfl
theorem zipI_idx {α : Type} : ∀ {l : List α} {i : Nat} {q : Nat × α}, q ∈ zipI i l → i ≤ q.1 ∧ q.1 < i + l.length
  | [], _, _, h => by simp [zipI] at h
  | x :: l, i, q, h => by
    simp only [zipI] at h
    rcases List.mem_cons.1 h with rfl | h
    · simp
    · have := zipI_idx h
      simp only [List.length_cons]; omega
theorem old_stks {e : Evi} {i : Nat} {x : Mve} {n : Nat} : ∀ q ∈ stks e i x, newO n q.2 = false := fun q h => by
  unfold stks at h
  split at h
  · simp at h
  · obtain ⟨m, _, rfl⟩ := List.mem_map.1 h
    simp [newO]
theorem old_wgts {e : Evi} {i : Nat} {x : Mve} {n : Nat} : ∀ q ∈ wgts e i x, newO n q.2 = false := fun q h => by
  unfold wgts at h
  split at h
  · simp at h
  · split at h
    · simp at h
    · simp only [List.mem_cons, List.not_mem_nil, or_false] at h
      rcases h with rfl | rfl <;> simp [newO]
theorem old_purs {e : Evi} {i : Nat} : ∀ q ∈ purs e i, newO e.Purities.length q.2 = false := fun q h => by
  unfold purs at h
  obtain ⟨r, hr, h⟩ := List.mem_flatMap.1 h
  have := (zipI_idx hr).2
  unfold purs1 at h
  split at h
  · simp only [List.mem_cons, List.not_mem_nil, or_false] at h
    rcases h with rfl | rfl <;> simp [newO] <;> omega
  · simp at h
theorem new_purs {e : Evi} {i n : Nat} {p : Pur} : ∀ q ∈ purs1 e i (n, p), newO n q.2 = true := fun q h => by
  unfold purs1 at h
  split at h
  · simp only [List.mem_cons, List.not_mem_nil, or_false] at h
    rcases h with rfl | rfl <;> simp [newO]
  · simp at h
theorem filt_all {α : Type} {f : α → Bool} {l : List α} (h : ∀ x ∈ l, f x = false) : l.filter (fun x => !f x) = l := List.filter_eq_self.2 fun x hx => by rw [h x hx]; rfl
theorem filt_none {α : Type} {f : α → Bool} {l : List α} (h : ∀ x ∈ l, f x = true) : l.filter (fun x => !f x) = [] := List.filter_eq_nil_iff.2 fun x hx => by rw [h x hx]; simp
theorem rows_add (e : Evi) (p : Pur) : (rowsE (addP e p)).filter (fun q => !newO e.Purities.length q.2) = rowsE e := by
  unfold rowsE
  rw [List.filter_flatMap]
  refine congrArg (fun f => (zipI 0 e.Moves).flatMap f) (funext fun q => ?_)
  show (stks e q.1 q.2 ++ wgts e q.1 q.2 ++ purs (addP e p) q.1).filter (fun q => !newO e.Purities.length q.2) = stks e q.1 q.2 ++ wgts e q.1 q.2 ++ purs e q.1
  rw [purs_add, List.filter_append, List.filter_append, List.filter_append]
  rw [filt_all (f := fun q : Rw × Org => newO e.Purities.length q.2) old_stks, filt_all (f := fun q : Rw × Org => newO e.Purities.length q.2) old_wgts, filt_all (f := fun q : Rw × Org => newO e.Purities.length q.2) old_purs, filt_none (f := fun q : Rw × Org => newO e.Purities.length q.2) new_purs, List.append_nil]
theorem filt_len {α : Type} {f : α → Bool} : ∀ l : List α, l.length = (l.filter f).length + (l.filter fun x => !f x).length
  | [] => rfl
  | x :: l => by
    have := filt_len (f := f) l
    cases h : f x <;> simp [h] <;> omega
theorem news_one (e : Evi) (p : Pur) (n : Nat) : ∀ (l : List Mve) (k : Nat), ((zipI k l).flatMap fun q => purs1 e q.1 (n, p)).length ≤ 2 ∧ (p.Move < k → ((zipI k l).flatMap fun q => purs1 e q.1 (n, p)) = [])
  | [], k => by simp [zipI]
  | x :: l, k => by
    obtain ⟨h1, h2⟩ := news_one e p n l (k + 1)
    simp only [zipI, List.flatMap_cons]
    by_cases hk : p.Move = k
    · rw [h2 (by omega), List.append_nil]
      refine ⟨?_, fun h => by omega⟩
      unfold purs1
      split <;> simp
    · have : purs1 e k (n, p) = [] := by
        unfold purs1
        rw [if_neg hk]
      rw [this, List.nil_append]
      exact ⟨h1, fun h => h2 (by omega)⟩
theorem news_len (e : Evi) (p : Pur) : (rowsE (addP e p)).length ≤ (rowsE e).length + 2 := by
  rw [filt_len (f := fun q => newO e.Purities.length q.2) (rowsE (addP e p)), rows_add]
  have : (rowsE (addP e p)).filter (fun q => newO e.Purities.length q.2) = (zipI 0 e.Moves).flatMap fun q => purs1 e q.1 (e.Purities.length, p) := by
    unfold rowsE
    rw [List.filter_flatMap]
    refine congrArg (fun f => (zipI 0 e.Moves).flatMap f) (funext fun q => ?_)
    show (stks e q.1 q.2 ++ wgts e q.1 q.2 ++ purs (addP e p) q.1).filter (fun q => newO e.Purities.length q.2) = _
    rw [purs_add, List.filter_append, List.filter_append, List.filter_append]
    rw [List.filter_eq_nil_iff.2 fun x hx => by rw [old_stks x hx]; decide, List.filter_eq_nil_iff.2 fun x hx => by rw [old_wgts x hx]; decide, List.filter_eq_nil_iff.2 fun x hx => by rw [old_purs x hx]; decide, List.filter_eq_self.2 fun x hx => new_purs x hx]
    simp
  rw [this]
  have := (news_one e p e.Purities.length e.Moves 0).1
  omega
def wideF (n : Nat) : List (Rw × Org) → List Frac → List Frac
  | [], _ => []
  | q :: l, y => if newO n q.2 = true then toF 0 :: wideF n l y else match y with
    | [] => wideF n l []
    | f :: y => f :: wideF n l y
theorem wideF_new {n : Nat} {q : Rw × Org} {l : List (Rw × Org)} {y : List Frac} (h : newO n q.2 = true) : wideF n (q :: l) y = toF 0 :: wideF n l y := by
  cases y <;> (show (if newO n q.2 = true then _ else _) = _; rw [if_pos h])
abbrev olds (n : Nat) (l : List (Rw × Org)) : List (Rw × Org) := l.filter fun q => !newO n q.2
theorem rightf_0 : rightf (toF 0) = true := by kernel_rfl
theorem toQ_0 : toQ (toF 0) = 0 := toQ_toF 0
structure Wide (n : Nat) (l : List (Rw × Org)) (y : List Frac) : Prop where
  len : (wideF n l y).length = l.length
  right : (wideF n l y).all rightf = y.all rightf
  mem : ∀ f ∈ wideF n l y, f = toF 0 ∨ f ∈ y
  sgn : sgnL (l.map (·.1)) ((wideF n l y).map toQ) = sgnL ((olds n l).map (·.1)) (y.map toQ)
  mix : ∀ s, mixS s (l.map (·.1)) ((wideF n l y).map toQ) = mixS s ((olds n l).map (·.1)) (y.map toQ)
  val : ∀ v, mixV v (l.map (·.1)) ((wideF n l y).map toQ) = mixV v ((olds n l).map (·.1)) (y.map toQ)
theorem wide_ok (n : Nat) : ∀ (l : List (Rw × Org)) (y : List Frac), y.length = (olds n l).length → Wide n l y
  | [], y, h => by
    obtain rfl : y = [] := List.eq_nil_of_length_eq_zero h
    exact ⟨rfl, rfl, fun f h => by simp [wideF] at h, rfl, fun _ => rfl, fun _ => rfl⟩
  | q :: l, y, h => by
    by_cases hn : newO n q.2 = true
    · have ho : olds n (q :: l) = olds n l := by simp [olds, hn]
      rw [ho] at h
      have ih := wide_ok n l y h
      have hw : wideF n (q :: l) y = toF 0 :: wideF n l y := wideF_new hn
      refine ⟨?_, ?_, fun f hf => ?_, ?_, fun s => ?_, fun v => ?_⟩
      · rw [hw, List.length_cons, List.length_cons, ih.len]
      · rw [hw, List.all_cons, rightf_0, ih.right]; rfl
      · rw [hw] at hf
        rcases List.mem_cons.1 hf with rfl | hf
        · exact Or.inl rfl
        · exact ih.mem f hf
      · rw [hw, ho, ← ih.sgn, List.map_cons, List.map_cons, toQ_0]
        show ((if q.1.Kind = 0 then decide ((0 : Rat) ≤ 0) else if q.1.Kind = 1 then decide ((0 : Rat) ≤ 0) else true) && _) = _
        have h0 : decide ((0 : Rat) ≤ 0) = true := by decide
        rw [h0]
        split
        · rfl
        · split <;> rfl
      · rw [hw, ho, ← ih.mix, List.map_cons, List.map_cons, toQ_0]
        show mixS (if (0 : Rat) = 0 then s else mixT 0 s q.1.Terms) (l.map (·.1)) ((wideF n l y).map toQ) = _
        rw [if_pos rfl]
      · rw [hw, ho, ← ih.val, List.map_cons, List.map_cons, toQ_0]
        show mixV (if (0 : Rat) = 0 then v else v + 0 * q.1.Value) (l.map (·.1)) ((wideF n l y).map toQ) = _
        rw [if_pos rfl]
    · have hn' : newO n q.2 = false := by simpa using hn
      have ho : olds n (q :: l) = q :: olds n l := by simp [olds, hn']
      rw [ho] at h
      match y, h with
      | f :: y, h =>
        have ih := wide_ok n l y (by simpa using h)
        have hw : wideF n (q :: l) (f :: y) = f :: wideF n l y := by show (if newO n q.2 = true then toF 0 :: wideF n l (f :: y) else f :: wideF n l y) = _; rw [if_neg hn]
        refine ⟨?_, ?_, fun g hg => ?_, ?_, fun s => ?_, fun v => ?_⟩
        · rw [hw, List.length_cons, List.length_cons, ih.len]
        · rw [hw, List.all_cons, List.all_cons, ih.right]
        · rw [hw] at hg
          rcases List.mem_cons.1 hg with rfl | hg
          · exact Or.inr (List.mem_cons_self ..)
          · rcases ih.mem g hg with h | h
            · exact Or.inl h
            · exact Or.inr (List.mem_cons_of_mem _ h)
        · rw [hw, ho, List.map_cons, List.map_cons, List.map_cons, List.map_cons]
          show (_ && sgnL (l.map (·.1)) ((wideF n l y).map toQ)) = (_ && sgnL ((olds n l).map (·.1)) (y.map toQ))
          rw [ih.sgn]
        · rw [hw, ho, List.map_cons, List.map_cons, List.map_cons, List.map_cons]
          exact ih.mix _
        · rw [hw, ho, List.map_cons, List.map_cons, List.map_cons, List.map_cons]
          exact ih.val _
theorem rtT_of {n : Int} : ∀ {l : List Trm} {last : Int}, (∀ t ∈ l, last < t.1 ∧ t.1 < n ∧ t.2 ≠ 0) → l.Pairwise (fun a b => a.1 < b.1) → rtT n last l = true
  | [], _, _, _ => rfl
  | t :: l, last, h, hp => by
    rw [List.pairwise_cons] at hp
    obtain ⟨h1, h2, h3⟩ := h t (List.mem_cons_self ..)
    unfold rtT
    simp only [Bool.and_eq_true, decide_eq_true_eq]
    exact ⟨⟨⟨h1, h2⟩, h3⟩, rtT_of (fun u hu => ⟨hp.1 u hu, (h u (List.mem_cons_of_mem _ hu)).2⟩) hp.2⟩
theorem pw_filterMap {α : Type} {f : α → Option Trm} {R : α → α → Prop} (hf : ∀ a b, R a b → ∀ t u, f a = some t → f b = some u → t.1 < u.1) : ∀ {l : List α}, l.Pairwise R → (l.filterMap f).Pairwise (fun a b => a.1 < b.1)
  | [], _ => by simp
  | a :: l, h => by
    rw [List.pairwise_cons] at h
    have ih := pw_filterMap hf h.2
    rw [List.filterMap_cons]
    split
    · exact ih
    · rename_i t ht
      rw [List.pairwise_cons]
      refine ⟨fun u hu => ?_, ih⟩
      obtain ⟨b, hb, hu⟩ := List.mem_filterMap.1 hu
      exact hf a b (h.1 b hb) t u ht hu
theorem zipI_pw {α : Type} : ∀ (l : List α) (i : Nat), (zipI i l).Pairwise (fun a b => a.1 < b.1)
  | [], _ => by simp [zipI]
  | x :: l, i => by
    rw [zipI, List.pairwise_cons]
    exact ⟨fun q hq => by have := (zipI_idx hq).1; show i < q.1; omega, zipI_pw l (i + 1)⟩
theorem var_lt {i m M : Int} {L : Int} (h0 : 0 ≤ i) (h1 : i < L) (h2 : 0 ≤ m) (h3 : m < M) : 0 ≤ i * M + m ∧ i * M + m < L * M := by
  have h4 : 0 ≤ i * M := Int.mul_nonneg h0 (by omega)
  have h5 : (i + 1) * M ≤ L * M := Int.mul_le_mul_of_nonneg_right (by omega) (by omega)
  rw [Int.add_mul] at h5
  omega
theorem ne1 : ((-1 : Rat)) ≠ 0 := by decide
theorem ne2 : ((1 : Rat)) ≠ 0 := by decide
theorem ne3 {x : Int} (h : ¬ x = 0) : ((x : Int) : Rat) ≠ 0 := fun e => h (Rat.intCast_eq_zero_iff.1 e)
theorem stkR_ok {e : Evi} (h : Good e) {i : Nat} (hi : i < e.Moves.length) {x : Mve} {mat : Nat} (hm : mat < e.Materials.toNat) : rowR (e.Moves.length * e.Materials) (stkR e i x mat) = true := by
  unfold rowR
  rw [Bool.and_eq_true]
  refine ⟨rtT_of (fun t ht => ?_) (pw_filterMap (R := fun a b => a.1 < b.1) (fun a b hab t u ht hu => ?_) (zipI_pw _ 0)), ?_⟩
  · obtain ⟨q, hq, h1⟩ := List.mem_filterMap.1 ht
    have h2 := (zipI_idx hq).2
    rw [List.length_take] at h2
    have h3 := var_lt (i := (q.1 : Int)) (m := (mat : Int)) (M := e.Materials) (L := (e.Moves.length : Int)) (by omega) (by omega) (by omega) (by omega)
    unfold stkT1 at h1
    split at h1
    · cases h1; exact ⟨by show (-1 : Int) < (q.1 : Int) * e.Materials + mat; omega, h3.2, ne1⟩
    · split at h1
      · cases h1; exact ⟨by show (-1 : Int) < (q.1 : Int) * e.Materials + mat; omega, h3.2, ne2⟩
      · cases h1
  · have key : ∀ (q : Nat × Mve) (t : Trm), stkT1 e x mat q = some t → t.1 = (q.1 : Int) * e.Materials + mat := fun q t h => by
      unfold stkT1 at h
      split at h
      · cases h; rfl
      · split at h
        · cases h; rfl
        · cases h
    rw [key a t ht, key b u hu]
    have := h.mat
    have h5 : ((a.1 : Int) + 1) * e.Materials ≤ b.1 * e.Materials := Int.mul_le_mul_of_nonneg_right (by omega) (by omega)
    rw [Int.add_mul] at h5
    omega
  · unfold stkR; dsimp only; split <;> decide
theorem sumT_rt {e : Evi} (h : Good e) {i : Nat} (hi : i < e.Moves.length) {a own more : Int} : rtT (e.Moves.length * e.Materials) (-1) (sumT e i a own more) = true := by
  have key : ∀ (m : Nat) (t : Trm), sumT1 e i a own more m = some t → t.1 = (i : Int) * e.Materials + m ∧ t.2 ≠ 0 := fun m t h => by
    unfold sumT1 at h
    dsimp only at h
    split at h
    · split at h
      · cases h
      · rename_i h0
        cases h
        exact ⟨rfl, ne3 h0⟩
    · split at h
      · cases h
      · rename_i h0
        cases h
        exact ⟨rfl, ne3 h0⟩
  refine rtT_of (fun t ht => ?_) (pw_filterMap (R := fun a b => a < b) (fun a b hab t u ht hu => ?_) List.pairwise_lt_range)
  · obtain ⟨m, hm, h1⟩ := List.mem_filterMap.1 ht
    rw [List.mem_range] at hm
    obtain ⟨k1, k2⟩ := key m t h1
    have h3 := var_lt (i := (i : Int)) (m := (m : Int)) (M := e.Materials) (L := (e.Moves.length : Int)) (by omega) (by omega) (by omega) (by omega)
    rw [k1]
    exact ⟨by omega, h3.2, k2⟩
  · rw [(key a t ht).1, (key b u hu).1]; omega
theorem rows_right {e : Evi} (h : Good e) : ∀ q ∈ rowsE e, rowR (e.Moves.length * e.Materials) q.1 = true := fun q hq => by
  unfold rowsE at hq
  obtain ⟨⟨i, x⟩, hi, hq⟩ := List.mem_flatMap.1 hq
  have hi := (zipI_idx hi).2
  have hi : i < e.Moves.length := by have : i < 0 + e.Moves.length := hi; omega
  unfold rows1 at hq
  rcases List.mem_append.1 hq with hq | hq
  · rcases List.mem_append.1 hq with hq | hq
    · unfold stks at hq
      split at hq
      · simp at hq
      · obtain ⟨m, hm, rfl⟩ := List.mem_map.1 hq
        exact stkR_ok h hi (List.mem_range.1 hm)
    · unfold wgts at hq
      split at hq
      · simp at hq
      · split at hq
        · simp at hq
        · simp only [List.mem_cons, List.not_mem_nil, or_false] at hq
          rcases hq with rfl | rfl <;> (unfold rowR; rw [Bool.and_eq_true]; exact ⟨sumT_rt h hi, rfl⟩)
  · unfold purs at hq
    obtain ⟨r, hr, hq⟩ := List.mem_flatMap.1 hq
    unfold purs1 at hq
    split at hq
    · simp only [List.mem_cons, List.not_mem_nil, or_false] at hq
      rcases hq with rfl | rfl <;> (unfold rowR; rw [Bool.and_eq_true]; exact ⟨sumT_rt h hi, rfl⟩)
    · simp at hq
theorem rowsE_len {e : Evi} (h : Good e) : (rowsE e).length ≤ e.Moves.length * 408 := by
  have := len_flat (l := zipI 0 e.Moves) (f := rows1 e) (k := 408) fun q _ => len_rows1 h q
  rwa [zipI_len] at this
theorem sys_right {e : Evi} (h : Good e) (hm : e.Moves.length ≤ 14) : sysR (sysE e) = true := by
  have h1 := h.mat
  have h2 := rowsE_len h
  unfold sysR
  simp only [Bool.and_eq_true, decide_eq_true_eq, btw_iff]
  have h3 : (e.Moves.length : Int) * e.Materials ≤ 14 * 6 := Int.mul_le_mul (by omega) (by omega) (by omega) (by omega)
  have h4 : 0 ≤ (e.Moves.length : Int) * e.Materials := Int.mul_nonneg (by omega) (by omega)
  refine ⟨⟨⟨h4, by show (e.Moves.length : Int) * e.Materials ≤ 1500; omega⟩, ?_⟩, ?_⟩
  · show ((rowsE e).map (·.1)).length ≤ 6000
    rw [List.length_map]
    have := Nat.mul_le_mul_right 408 hm
    omega
  · rw [List.all_eq_true]
    intro r hr
    obtain ⟨q, hq, rfl⟩ := List.mem_map.1 hr
    exact rows_right h q hq
theorem narrow_low {e : Evi} {p : Pur} {y : List Frac} {g : List Trm} (h1 : flowC e = 0) (h2 : flowC (addP e p) = 0) (hm : e.Moves.length ≤ 14) (hl : y.length = (rowsE e).length) :
    lowB (sysE (addP e p)) g (wideF e.Purities.length (rowsE (addP e p)) y) = lowB (sysE e) g y ∧ lowV (sysE (addP e p)) (wideF e.Purities.length (rowsE (addP e p)) y) = lowV (sysE e) y := by
  have hW := wide_ok e.Purities.length (rowsE (addP e p)) y (by unfold olds; rw [rows_add, hl])
  have ho : olds e.Purities.length (rowsE (addP e p)) = rowsE e := rows_add e p
  have hmix : mixO (sysE (addP e p)) ((wideF e.Purities.length (rowsE (addP e p)) y).map toQ) = mixO (sysE e) (y.map toQ) := by
    unfold mixO
    show outT 0 (mixS _ ((rowsE (addP e p)).map (·.1)) _) = outT 0 (mixS _ ((rowsE e).map (·.1)) _)
    rw [hW.mix, ho]; rfl
  have hsg : sgnS (sysE (addP e p)) (wideF e.Purities.length (rowsE (addP e p)) y) = sgnS (sysE e) y := by
    unfold sgnS mulS
    rw [sys_right (flow_good h1) hm, sys_right (flow_good h2) hm]
    show ((true && decide ((wideF e.Purities.length (rowsE (addP e p)) y).length = ((rowsE (addP e p)).map (·.1)).length) && _) && sgnL ((rowsE (addP e p)).map (·.1)) _) = ((true && decide (y.length = ((rowsE e).map (·.1)).length) && _) && sgnL ((rowsE e).map (·.1)) _)
    rw [hW.sgn, hW.right, hW.len, ho, List.length_map, List.length_map, hl, decide_eq_true rfl, decide_eq_true rfl]
  constructor
  · unfold lowB
    rw [hmix, hsg]; rfl
  · unfold lowV
    show mixV 0 ((rowsE (addP e p)).map (·.1)) _ = mixV 0 ((rowsE e).map (·.1)) _
    rw [hW.val, ho]
theorem narrow_imp {e : Evi} {p : Pur} {y : List Frac} (h1 : flowC e = 0) (h2 : flowC (addP e p) = 0) (hm : e.Moves.length ≤ 14) (hl : y.length = (rowsE e).length) :
    impB (addP e p) (wideF e.Purities.length (rowsE (addP e p)) y) = impB e y := by
  obtain ⟨k1, k2⟩ := narrow_low (g := []) h1 h2 hm hl
  unfold impB rftB
  rw [k1, k2, h1, h2]
theorem papV_add {e : Evi} {p : Pur} {mat : Int} : ∀ {l : List Int} {last : Int}, papV (addP e p) mat last l = papV e mat last l
  | [], _ => rfl
  | i :: l, last => by
    unfold papV
    rw [papV_add (l := l) (last := i)]; rfl
theorem narrow_pap {e : Evi} {p : Pur} {b : Bch} {grams : Int} {y : List Frac} (h1 : flowC e = 0) (h2 : flowC (addP e p) = 0) (hm : e.Moves.length ≤ 14) (hl : y.length = (rowsE e).length) :
    papB (addP e p) b grams (wideF e.Purities.length (rowsE (addP e p)) y) = papB e b grams y := by
  unfold papB
  have hg : papG (addP e p) b grams = papG e b grams := by
    unfold papG
    rw [h1, h2]; rfl
  rw [hg, papV_add]
  cases papV e b.Material (-1) b.Moves with
  | none => rfl
  | some l =>
    obtain ⟨k1, k2⟩ := narrow_low (g := sumV l) h1 h2 hm hl
    dsimp only
    rw [k1, k2]
end Go.Proofs.YteekaonhdckicaaGreatDoor.Dp

namespace Go.Proofs.YteekaonhdckicaaGreatDoor.Dp
open Go Go.RowKit Go.Proofs.YteekaonhdckicaaGreatDoor.Rt Go.Proofs Go.Proofs.YteekaonhdckicaaGreatDoor.D
set_option linter.unusedVariables false
set_option maxHeartbeats 4000000
set_option maxRecDepth 100000
def zeroOpt : Opt := ⟨0, zeroF, [], [], []⟩
def few50 (e : Evi) (b : Bch) (y : List Frac) : Bool := few17 e [] ⟨zeroOpt, zeroOpt⟩ 4 2 && decide (e.Purities.length ≤ 2) && decide (b.Moves.length ≤ 8) && fewP y 60 20 && few14 e
theorem few50_e (e : Evi) (b : Bch) (y : List Frac) : EvF tt 8 [.v (eEv e), .v (eBt b), L (fs y)] (B (few50 e b y)) := by
  have h1 : EvF tt 19 [.v (eEv e), L [], .v (eRg ⟨zeroOpt, zeroOpt⟩), I 4, I 2] (B (few17 e [] ⟨zeroOpt, zeroOpt⟩ 4 2)) := few17_e e [] ⟨zeroOpt, zeroOpt⟩ 4 2
  have h2 : EvF tt 7 [L (fs y), I 60, I 20] (B (fewP y 60 20)) := fewP_e y 60 20 (by decide)
  have h3 := few14_e e
  refine evF (eIn Tryz.func8 rfl rfl ?_)
  refine qK rfl h1 rfl ?_
  unfold few50
  cases few17 e [] ⟨zeroOpt, zeroOpt⟩ 4 2 with
  | false =>
    refine qN rfl rfl ?_
    exact qR rfl ⟨rfl, rfl⟩
  | true =>
    refine qT rfl rfl ?_
    by_cases h4 : e.Purities.length ≤ 2
    · rw [decide_eq_true h4]
      by_cases h5 : b.Moves.length ≤ 8
      · rw [decide_eq_true h5]
        refine qT rfl (decide_eq_true (by first | omega | (simp; done) | (simp; omega))) ?_
        refine qT rfl (decide_eq_true (by first | omega | (simp; done) | (simp; omega))) ?_
        refine qK rfl h2 rfl ?_
        cases fewP y 60 20 with
        | false =>
          refine qN rfl rfl ?_
          exact qR rfl ⟨rfl, rfl⟩
        | true =>
          refine qT rfl rfl ?_
          refine qK rfl (h3) rfl ?_
          exact qR rfl ⟨rfl, rfl⟩
      · rw [decide_eq_false h5]
        refine qT rfl (decide_eq_true (by first | omega | (simp; done) | (simp; omega))) ?_
        refine qN rfl (decide_eq_false (by first | omega | (simp; done) | (simp; omega))) ?_
        exact qR rfl ⟨rfl, rfl⟩
    · rw [decide_eq_false h4]
      refine qN rfl (decide_eq_false (by first | omega | (simp; done) | (simp; omega))) ?_
      exact qR rfl ⟨rfl, rfl⟩
end Go.Proofs.YteekaonhdckicaaGreatDoor.Dp

namespace Go.Proofs.YteekaonhdckicaaGreatDoor.Dp
open Go Go.RowKit Go.Proofs.YteekaonhdckicaaGreatDoor.Rt Go.Proofs Go.Proofs.YteekaonhdckicaaGreatDoor.D
set_option linter.unusedVariables false
set_option maxHeartbeats 4000000
set_option maxRecDepth 100000
def readP (s : Bs) : Option (List Frac) := match textsR s with
  | none => none
  | some (l, t) => if t = [] then fracsR l else none
def rdQ (s : Bs) (r : DV) (H : DH) : Prop := H = [] ∧ match readP s with
  | some l => r = .tup [L (fs l), B true]
  | none => r = .tup [L [], B false]
theorem cutS_le (x : Bs) (h : x.length ≤ 500) : (cutS x).1.length ≤ 500 ∧ (cutS x).2.1.length ≤ 500 := by have := cutS_len x; omega
theorem readP_q (s : Bs) (hl : s.length < 1000000) (h5 : ∀ l t, textsR s = some (l, t) → ∀ x ∈ l, x.length ≤ 500) (h6 : ∀ l t, textsR s = some (l, t) → l.length < 1000000) : Ev tt 11 [S s] [] (rdQ s) := by
  refine eIn Tryz.func11 rfl rfl ?_
  refine qK rfl (open_e s) rfl ?_
  have bad : readP s = none → rdQ s (.tup [L [], B false]) [] := fun h => by unfold rdQ; rw [h]; exact ⟨rfl, rfl⟩
  obtain ⟨k, r, H, h1, h2⟩ := texts_q s hl
  unfold txsQ at h2
  cases ht : textsR s with
  | none =>
    rw [ht] at h2
    obtain ⟨rfl, rfl⟩ := h2
    refine qK rfl ⟨k, h1⟩ rfl ?_
    refine qK rfl done_d rfl ?_
    refine qT rfl rfl ?_
    exact qR rfl (bad (by unfold readP; rw [ht]))
  | some p =>
    obtain ⟨l, t⟩ := p
    rw [ht] at h2
    obtain ⟨rfl, rfl⟩ := h2
    refine qK rfl ⟨k, h1⟩ rfl ?_
    refine qK rfl (done_a t) rfl ?_
    have h5 := h5 l t ht
    have h6 := h6 l t ht
    refine qC rfl (fun h => ?_) (fun h => ?_)
    · have h : ¬ t = [] := h
      exact qR rfl (bad (by unfold readP; rw [ht]; exact if_neg h))
    · have h : ¬ ¬ t = [] := h
      have h := Classical.not_not.1 h
      have hp : readP s = fracsR l := by unfold readP; rw [ht]; exact if_pos h
      refine qL (σ := Int × List VT) (fun q => [(20, I q.1)]) (fun q => [(0, .row 40 4 q.2)]) (fun q => ∃ (k : Nat) (acc : List Frac), q.1 = k ∧ k ≤ l.length ∧ q.2 = fs acc ∧ acc.length = k ∧ fracsR l = (fracsR (l.drop k)).map (acc ++ ·)) (fun q => l.length - q.1.toNat) (0, []) rfl rfl ⟨0, [], rfl, by omega, rfl, rfl, by simp⟩ ?_
      rintro ⟨i, out⟩ ⟨k, acc, hi, hk, ho, ha, hf⟩ ih
      obtain rfl : i = k := hi
      obtain rfl : out = fs acc := ho
      refine qC rfl (fun h => ?_) (fun h => ?_)
      · have h : (k : Int) < ((ss l).length : Int) := h
        rw [List.length_map] at h
        refine qXm (g := VT.str) (l := l) rfl ⟨by show (0 : Int) ≤ k; omega, by show (k : Int) < _; omega⟩ fun x hx _ => ?_
        have hx : l[k]? = some x := hx
        have hxl := h5 x (List.mem_of_getElem? hx)
        have hdr : l.drop k = x :: l.drop (k + 1) := by rw [List.drop_eq_getElem_cons (by omega)]; congr 1; exact (List.getElem?_eq_some_iff.1 hx).2
        refine qK rfl (fread_e (s := x) (by omega) (cutS_le x hxl).1 (cutS_le x hxl).2) rfl ?_
        refine qC rfl (fun e => ?_) (fun e => ?_)
        · have e : ¬ (readF x).2 = 0 := e
          refine qR rfl (bad ?_)
          rw [hp, hf, hdr]
          unfold fracsR
          rw [if_neg e]; rfl
        · have e : ¬ ¬ (readF x).2 = 0 := e
          have e := Classical.not_not.1 e
          refine qA 64 rfl rfl (by simp; omega) ?_
          have hi : iadd .i64 (k : Int) 1 = ((k + 1 : Nat) : Int) := by rw [iadd_i64 (by omega) (by omega)]; rfl
          refine qB (ih (iadd .i64 (k : Int) 1, fs acc ++ [eF (readF x).1]) ⟨k + 1, acc ++ [(readF x).1], hi, by omega, by simp, by simp [ha], ?_⟩ ?_) (by kernel_rfl)
          · rw [hf, hdr]
            conv => lhs; unfold fracsR
            rw [if_pos e]
            cases fracsR (l.drop (k + 1)) with
            | none => rfl
            | some r => simp
          · show l.length - (iadd .i64 (k : Int) 1).toNat < l.length - (k : Int).toNat
            rw [hi]; simp only [Int.toNat_natCast]; omega
      · have h : ¬ (k : Int) < ((ss l).length : Int) := h
        rw [List.length_map] at h
        have hd : l.drop k = [] := List.drop_eq_nil_of_le (by omega)
        refine qR rfl ?_
        unfold rdQ
        rw [hp, hf, hd]
        refine ⟨rfl, ?_⟩
        show _ = DV.tup [L (fs (acc ++ [])), B true]
        rw [List.append_nil]
        rfl
end Go.Proofs.YteekaonhdckicaaGreatDoor.Dp

namespace Go.Proofs.YteekaonhdckicaaGreatDoor.Dp
open Go Go.RowKit Go.Proofs.YteekaonhdckicaaGreatDoor.Rt Go.Proofs Go.Proofs.YteekaonhdckicaaGreatDoor.D
set_option linter.unusedVariables false
set_option maxHeartbeats 4000000
set_option maxRecDepth 100000
theorem wT_len : ∀ {l : List Bs}, l.length ≤ (l.flatMap wText).length ∧ ∀ x ∈ l, x.length ≤ (l.flatMap wText).length
  | [] => ⟨Nat.le_refl _, fun x h => by simp at h⟩
  | y :: l => by
    obtain ⟨h1, h2⟩ := wT_len (l := l)
    have h3 : y.length + 1 ≤ (wText y).length := by unfold wText; simp; omega
    rw [List.flatMap_cons, List.length_append, List.length_cons]
    refine ⟨by omega, fun x hx => ?_⟩
    rcases List.mem_cons.1 hx with rfl | hx
    · omega
    · have := h2 x hx
      omega
theorem texts_small {s : Bs} (hl : s.length ≤ 400) : ∀ l t, textsR s = some (l, t) → (∀ x ∈ l, x.length ≤ 500) ∧ l.length < 1000000 := fun l t h => by
  have h1 := congrArg List.length (textsR_of h)
  unfold wTexts at h1
  simp only [List.length_append] at h1
  obtain ⟨h2, h3⟩ := wT_len (l := l)
  exact ⟨fun x hx => by have := h3 x hx; omega, by omega⟩
def rdV (s : Bs) : DV := match readP s with
  | some l => .tup [L (fs l), B true]
  | none => .tup [L [], B false]
theorem read_x (s : Bs) (hl : s.length < 1000000) (h5 : ∀ l t, textsR s = some (l, t) → (∀ x ∈ l, x.length ≤ 500) ∧ l.length < 1000000) : EvF tt 11 [S s] (rdV s) := by
  obtain ⟨k, r, H, h1, rfl, h2⟩ := readP_q s hl (fun l t h => (h5 l t h).1) (fun l t h => (h5 l t h).2)
  refine evF ⟨k, r, [], h1, ?_, rfl⟩
  unfold rdV
  cases hr : readP s with
  | none => rw [hr] at h2; exact h2
  | some l => rw [hr] at h2; exact h2
theorem sm1 : readP [49, 91, 51, 58, 50, 47, 52, 44, 93] = none := by kernel_rfl
theorem sm2 : readP [48, 91, 93] = some [] := by kernel_rfl
theorem sm3 : textP [toF (Rat.divInt 1 2), toF ((-3 : Int) : Rat)] = [50, 91, 51, 58, 49, 47, 50, 44, 52, 58, 45, 51, 47, 49, 44, 93] := by kernel_rfl
def eS : Evi := ⟨1, 1, 1, [⟨0, 0, 0⟩, ⟨5, -1, -1⟩], [⟨3, 0, 1, 0, 20, false⟩], [⟨0, 0, 9, 2, 0, 0⟩], [], []⟩
def bS : Bch := ⟨0, [0]⟩
def yS : List Frac := [toF ((1 : Int) : Rat), toF ((0 : Int) : Rat)]
theorem sm9 : impB eS [toF ((1 : Int) : Rat), toF ((-1 : Int) : Rat)] = false := by kernel_rfl
theorem sm10 : srt [0] = [0] := by simp
theorem sm11 : papB eS bS 18 yS = true := by
  have h : papV eS bS.Material (-1) bS.Moves = some [0] := by kernel_rfl
  have h2 : sumV [0] = [(0, 1)] := by unfold sumV; rw [sm10]; rfl
  unfold papB
  rw [h]
  show (_ && (lowB (sysE eS) (sumV [0]) yS && _)) = true
  rw [h2]
  kernel_rfl
theorem sm12 : papB eS bS 19 yS = false := by
  have h : papV eS bS.Material (-1) bS.Moves = some [0] := by kernel_rfl
  have h2 : sumV [0] = [(0, 1)] := by unfold sumV; rw [sm10]; rfl
  unfold papB
  rw [h]
  show (_ && (lowB (sysE eS) (sumV [0]) yS && _)) = false
  rw [h2]
  kernel_rfl
def rdO : Option (List Frac) → DV
  | some l => .tup [L (fs l), B true]
  | none => .tup [L [], B false]
theorem rd_sm {s : Bs} {v : Option (List Frac)} (hl : s.length ≤ 400) (h : readP s = v) : EvF tt 11 [S s] (rdO v) := by
  have := read_x s (by omega) (texts_small hl)
  subst h
  exact this
theorem small_e : EvF tt 6 [] (B true) := by
  have hof : EvF tt 26 [I 1, I 2] (.tup [.v (eF (toF (Rat.divInt 1 2))), I 0]) := fof_e (by decide) (by decide) (by decide) (by decide) (by decide)
  have i3 : EvF tt 18 [I (-3)] (.v (eF (toF (-3 : Int)))) := fint_e (by decide) (by decide)
  have i1 : EvF tt 18 [I 1] (.v (eF (toF (1 : Int)))) := fint_e (by decide) (by decide)
  have i0 : EvF tt 18 [I 0] (.v (eF (toF (0 : Int)))) := fint_e (by decide) (by decide)
  have im : EvF tt 18 [I (-1)] (.v (eF (toF (-1 : Int)))) := fint_e (by decide) (by decide)
  have r1 : EvF tt 11 [S [49, 91, 51, 58, 50, 47, 52, 44, 93]] (.tup [L [], B false]) := rd_sm (by decide) sm1
  have r2 : EvF tt 11 [S [48, 91, 93]] (.tup [L [], B true]) := rd_sm (by decide) sm2
  have t1 : EvF tt 10 [L (fs [toF (Rat.divInt 1 2), toF ((-3 : Int) : Rat)])] (S (textP [toF (Rat.divInt 1 2), toF ((-3 : Int) : Rat)])) := ptext_e (k := 20) (by
    intro f hf
    simp only [List.mem_cons, List.not_mem_nil, or_false] at hf
    rcases hf with rfl | rfl <;> decide +kernel) (by decide) (by decide)
  rw [sm3] at t1
  have hE : ELen eS := by constructor <;> decide
  have hY : YOk yS 20 := ⟨by decide, by
    intro f hf
    simp only [yS, List.mem_cons, List.not_mem_nil, or_false] at hf
    rcases hf with rfl | rfl <;> decide +kernel⟩
  have hY2 : YOk [toF ((1 : Int) : Rat), toF ((-1 : Int) : Rat)] 20 := ⟨by decide, by
    intro f hf
    simp only [List.mem_cons, List.not_mem_nil, or_false] at hf
    rcases hf with rfl | rfl <;> decide +kernel⟩
  have p1 := paper_e (b := bS) (grams := 18) hE hY (by decide)
  rw [sm11] at p1
  have p2 := paper_e (b := bS) (grams := 19) hE hY (by decide)
  rw [sm12] at p2
  have q1 := impos_e hE hY2
  rw [sm9] at q1
  refine evF (eIn Tryz.func6 rfl rfl ?_)
  refine qK rfl (hof) rfl ?_
  refine qK rfl (r1) rfl ?_
  refine qK rfl (r2) rfl ?_
  refine qK rfl (i1) rfl ?_
  refine qK rfl (i0) rfl ?_
  refine qK rfl (i3) rfl ?_
  refine qK rfl (t1) rfl ?_
  refine qT rfl rfl ?_
  refine qT rfl rfl ?_
  refine qT rfl rfl ?_
  refine qE rfl (by kernel_rfl) (by kernel_rfl) ?_
  refine qT rfl rfl ?_
  refine qK rfl (p1) rfl ?_
  refine qT rfl rfl ?_
  refine qK rfl (p2) rfl ?_
  refine qT rfl rfl ?_
  refine qK rfl (i1) rfl ?_
  refine qK rfl (im) rfl ?_
  refine qK rfl (q1) rfl ?_
  refine qE rfl (by kernel_rfl) (by kernel_rfl) ?_
  exact qR rfl ⟨rfl, rfl⟩
end Go.Proofs.YteekaonhdckicaaGreatDoor.Dp

namespace Go.Proofs.YteekaonhdckicaaGreatDoor.Dp
open Go Go.RowKit Go.Proofs.YteekaonhdckicaaGreatDoor.Rt Go.Proofs Go.Proofs.YteekaonhdckicaaGreatDoor.D
set_option linter.unusedVariables false
set_option maxHeartbeats 8000000
set_option maxRecDepth 100000
theorem origin_e {e : Evi} (h : flowC e = 0) (hL : ELen e) {k : Nat} {q : Rw × Org} (hk : (rowsE e)[k]? = some q) : EvF tt 17 [.v (eEv e), I k] (.tup [.v (eOr q.2), B true]) := by
  have hf := flow_e e hL.plc (by have := hL.mov; omega) hL.crt hL.rcl hL.pur
  rw [h] at hf
  have hma := made_e (flow_good h)
  have hl := (List.getElem?_eq_some_iff.1 hk).1
  have hol : (orL (rowsE e)).length = (rowsE e).length := List.length_map ..
  refine evF (eIn Tryz.func17 rfl rfl ?_)
  refine qK rfl (hf) rfl ?_
  refine qN rfl rfl ?_
  refine qN rfl rfl ?_
  refine qK rfl (hma) rfl ?_
  refine qN rfl (decide_eq_false (by first | omega | (simp; done) | (simp; omega))) ?_
  refine qXi rfl (by omega) (by rw [Int.toNat_natCast]; exact hk) ?_
  exact qR rfl ⟨rfl, rfl⟩
end Go.Proofs.YteekaonhdckicaaGreatDoor.Dp

namespace Go.Proofs.YteekaonhdckicaaGreatDoor.Dp
open Go Go.RowKit Go.Proofs.YteekaonhdckicaaGreatDoor.Rt Go.Proofs Go.Proofs.YteekaonhdckicaaGreatDoor.D
set_option linter.unusedVariables false
set_option maxHeartbeats 40000000
set_option maxRecDepth 100000
theorem qAe {P : Program} {T : Ty P} {fr : Fr} {s : St} {Q : DV → DH → Prop} {cm chk : Bool} {q by' : Nat} {xs ys : List VT} {k : List VT → St} (b : Nat) (h : rnA T fr 2000 s = .ask cm (List VT) (appQ chk q by' xs ys) k) (hb : by' = b) (hl : (xs.length + ys.length) * b ≤ 140737488355328) (zs : List VT) (hz : xs ++ ys = zs) (hk : Tt T fr (k zs) Q) (hs : chk = true → szOk q ys = true := by intro h; cases h) : Tt T fr s Q := by
  subst hz
  exact qA b h hb hl hk hs
theorem wide_y {y : List Frac} (hY : y.length ≤ 60 ∧ ∀ f ∈ y, f.P.Digits.length ≤ 20 ∧ f.Q.Digits.length ≤ 20) {n : Nat} {l : List (Rw × Org)} (h : Wide n l y) (hl : l.length ≤ 64) : YOk (wideF n l y) 20 :=
  ⟨by rw [h.len]; exact hl, fun f hf => by
    rcases h.mem f hf with rfl | hf
    · exact ⟨Nat.le_trans (toF_len smF_0).1 (by decide), Nat.le_trans (toF_len smF_0).2 (by decide)⟩
    · exact hY.2 f hf⟩
theorem wideF_old {n : Nat} {q : Rw × Org} {l : List (Rw × Org)} {f : Frac} {y : List Frac} (h : newO n q.2 = false) : wideF n (q :: l) (f :: y) = f :: wideF n l y := by
  show (if newO n q.2 = true then _ else _) = _
  rw [if_neg (by rw [h]; decide)]
theorem wideF_end {n : Nat} {q : Rw × Org} {l : List (Rw × Org)} (h : newO n q.2 = false) : wideF n (q :: l) [] = wideF n l [] := by
  show (if newO n q.2 = true then _ else _) = _
  rw [if_neg (by rw [h]; decide)]
def NJ (n : Nat) (R : List (Rw × Org)) (y : List Frac) (j : Nat) (z : Int) (ts : List VT) : Prop := ∃ kk : Nat, z = kk ∧ kk ≤ j ∧ ∃ out : List Frac, ts = fs out ∧ out.length ≤ j ∧ wideF n R y = out ++ wideF n (R.drop j) (y.drop kk) ∧ kk + (olds n (R.drop j)).length = (olds n R).length
theorem NJ0 (n : Nat) (R : List (Rw × Org)) (y : List Frac) : NJ n R y 0 0 [] := ⟨0, rfl, Nat.le_refl _, [], rfl, Nat.le_refl _, rfl, by rw [Nat.zero_add]; rfl⟩
theorem narrows_e (e : Evi) (p : Pur) (b : Bch) (grams : Int) (y : List Frac) : EvF tt 4 [.v (eEv e), .v (ePu p), .v (eBt b), I grams, L (fs y)] (B true) := by
  refine evF (eIn Tryz.func4 rfl rfl ?_)
  refine qK rfl small_e rfl ?_
  refine qK rfl (few50_e e b y) rfl ?_
  cases hf : few50 e b y with
  | false =>
    refine qT rfl rfl ?_
    exact qR rfl ⟨rfl, rfl⟩
  | true =>
    have hys : y.length ≤ 60 ∧ ∀ f ∈ y, f.P.Digits.length ≤ 20 ∧ f.Q.Digits.length ≤ 20 := by
      unfold few50 fewP at hf
      simp only [Bool.and_eq_true, decide_eq_true_eq] at hf
      refine ⟨by omega, fun f h => ?_⟩
      have := List.all_eq_true.1 hf.1.2.2 f h
      unfold fewF at this
      simp only [Bool.and_eq_true, decide_eq_true_eq] at this
      omega
    have hY : YOk y 20 := ⟨by omega, hys.2⟩
    have hE : ELen e ∧ e.Moves.length ≤ 4 := by
      unfold few50 few17 sml at hf
      simp only [Bool.and_eq_true, decide_eq_true_eq] at hf
      exact ⟨by constructor <;> omega, by omega⟩
    have hbm : b.Moves.length ≤ 1000 := by
      unfold few50 at hf
      simp only [Bool.and_eq_true, decide_eq_true_eq] at hf
      omega
    by_cases hp1 : 1 < e.Purities.length
    · refine qN rfl rfl ?_
      refine qT rfl (decide_eq_true (by first | omega | (simp; done) | (simp; omega))) ?_
      exact qR rfl ⟨rfl, rfl⟩
    have hE2 : ELen (addP e p) := ⟨hE.1.plc, hE.1.mov, hE.1.crt, hE.1.rcl, by show (e.Purities ++ [p]).length < _; simp; omega⟩
    have hs := sys_e hE2
    have hfl := flow_e e hE.1.plc (by have := hE.1.mov; omega) hE.1.crt hE.1.rcl hE.1.pur
    refine qN rfl rfl ?_
    refine qN rfl (decide_eq_false (by first | omega | (simp; done) | (simp; omega))) ?_
    refine qAe 32 rfl rfl ?_ (e.Purities.map ePu) rfl ?_ (fun _ => szOk_map (g := ePu) (fun _ => rfl) _); rotate_left
    refine qAe 32 rfl rfl ?_ ((e.Purities ++ [p]).map ePu) (by rw [List.map_append]; rfl) ?_ (fun _ => rfl); rotate_left
    refine qE rfl (by kernel_rfl) (by kernel_rfl) ?_
    refine qK rfl hs rfl ?_
    by_cases hf1 : flowC (addP e p) = 0
    · rw [hf1, if_pos rfl]
      have hG := flow_good hf1
      refine qN rfl rfl ?_
      refine qK rfl hfl rfl ?_
      by_cases hf2 : flowC e = 0
      · rw [hf2] at hfl
        refine qN rfl (by rw [hf2]; rfl) ?_
        have hlen : ((sysE (addP e p)).Rows.map eRw).length = (rowsE (addP e p)).length := by rw [List.length_map]; exact List.length_map ..
        have hRl := rowsE_len hG
        have hml : (addP e p).Moves.length ≤ 4 := hE.2
        have h0 : EvF tt 18 [I 0] (.v (eF (toF 0))) := fint_e (x := 0) (by decide) (by decide)
        have hpl : (((e.Purities.map ePu).length : Nat) : Int) = e.Purities.length := by rw [List.length_map]
        have hfl' : (((fs y).length : Nat) : Int) = y.length := by rw [List.length_map]
        generalize hR : rowsE (addP e p) = R at *
        refine qF R.length (fun z q => [(17, I z), (16, I q.1)]) (fun _ q => [(0, .row 40 4 q.2)]) (fun j (q : Int × List VT) => NJ e.Purities.length R y j q.1 q.2) (0, []) rfl rfl (NJ0 _ _ _) ?_
        rintro j ⟨z, ts⟩ hj ⟨kk, hz, hkj, out, hts, hol, hw, hcnt⟩ ih
        obtain rfl : z = kk := hz
        obtain rfl : ts = fs out := hts
        by_cases hlt : j < R.length
        · have hq := List.getElem?_eq_getElem hlt
          generalize R[j] = q at hq
          have hor := origin_e hf1 hE2 (k := j) (q := q) (by rw [hR]; exact hq)
          refine qT rfl (decide_eq_true (by omega)) ?_
          have hd := dropAt hq
          have hnO : newO e.Purities.length q.2 = ((decide (q.2.Kind = 3) || decide (q.2.Kind = 4)) && decide (q.2.Index = e.Purities.length)) := rfl
          have jnew : newO e.Purities.length q.2 = true → NJ e.Purities.length R y (j + 1) kk (fs out ++ [eF (toF 0)]) := fun hn => by
            rw [hd] at hw hcnt
            refine ⟨kk, rfl, by omega, out ++ [toF 0], by show out.map eF ++ [_] = (out ++ [_]).map eF; rw [List.map_append]; rfl, by simp; omega, ?_, ?_⟩
            · rw [hw, wideF_new hn, List.append_assoc]; rfl
            · rw [← hcnt]; simp [olds, hn]
          have jold1 : ∀ f, y[kk]? = some f → newO e.Purities.length q.2 = false → NJ e.Purities.length R y (j + 1) (iadd .i64 kk 1) (fs out ++ [eF f]) := fun f hf hn => by
            rw [hd] at hw hcnt
            refine ⟨kk + 1, next64 (by omega), by omega, out ++ [f], by show out.map eF ++ [_] = (out ++ [_]).map eF; rw [List.map_append]; rfl, by simp; omega, ?_, ?_⟩
            · rw [hw, dropAt hf, wideF_old hn, List.append_assoc]; rfl
            · rw [← hcnt]; simp [olds, hn]; omega
          have jold2 : y.length ≤ kk → newO e.Purities.length q.2 = false → NJ e.Purities.length R y (j + 1) (iadd .i64 kk 1) (fs out) := fun hy hn => by
            rw [hd] at hw hcnt
            refine ⟨kk + 1, next64 (by omega), by omega, out, rfl, by omega, ?_, ?_⟩
            · have d1 : y.drop kk = [] := List.drop_eq_nil_of_le hy
              have d2 : y.drop (kk + 1) = [] := List.drop_eq_nil_of_le (by omega)
              rw [hw, d1, d2, wideF_end hn]
            · rw [← hcnt]; simp [olds, hn]; omega
          refine qK rfl hor rfl ?_
          refine qN rfl rfl ?_
          by_cases c3 : q.2.Kind = 3
          · refine qT rfl (decide_eq_true c3) ?_
            by_cases c5 : q.2.Index = e.Purities.length
            · refine qT rfl (decide_eq_true (by rw [c5, hpl])) ?_
              refine qK rfl h0 rfl ?_
              refine qA 64 rfl rfl ?_ ?_; rotate_left
              refine qB (ih _ ((kk : Int), fs out ++ [eF (toF 0)]) (next64 (by omega)) hlt (jnew (by rw [hnO, c3, c5]; simp))) (by kernel_rfl)
              rw [List.length_map]; simp; omega
            · refine qN rfl (decide_eq_false (by rw [hpl]; exact c5)) ?_
              have hn : newO e.Purities.length q.2 = false := by rw [hnO, decide_eq_false c5, Bool.and_false]
              by_cases c6 : kk < y.length
              · have hy := List.getElem?_eq_getElem c6
                generalize y[kk] = f at hy
                refine qT rfl (decide_eq_true (by rw [hfl']; show (kk : Int) < _; omega)) ?_
                refine qXi (g := eF) rfl (by show 0 ≤ (kk : Int); omega) (by show y[((kk : Int)).toNat]? = _; rw [Int.toNat_natCast]; exact hy) ?_
                refine qA 64 rfl rfl ?_ ?_; rotate_left
                refine qB (ih _ (iadd .i64 kk 1, fs out ++ [eF f]) (next64 (by omega)) hlt (jold1 f hy hn)) (by kernel_rfl)
                rw [List.length_map]; simp; omega
              · refine qN rfl (decide_eq_false (by rw [hfl']; show ¬ (kk : Int) < _; omega)) ?_
                refine qB (ih _ (iadd .i64 kk 1, fs out) (next64 (by omega)) hlt (jold2 (by omega) hn)) (by kernel_rfl)
          · refine qN rfl (decide_eq_false c3) ?_
            by_cases c4 : q.2.Kind = 4
            · refine qT rfl (decide_eq_true c4) ?_
              by_cases c5 : q.2.Index = e.Purities.length
              · refine qT rfl (decide_eq_true (by rw [c5, hpl])) ?_
                refine qK rfl h0 rfl ?_
                refine qA 64 rfl rfl ?_ ?_; rotate_left
                refine qB (ih _ ((kk : Int), fs out ++ [eF (toF 0)]) (next64 (by omega)) hlt (jnew (by rw [hnO, c4, c5]; simp))) (by kernel_rfl)
                rw [List.length_map]; simp; omega
              · refine qN rfl (decide_eq_false (by rw [hpl]; exact c5)) ?_
                have hn : newO e.Purities.length q.2 = false := by rw [hnO, decide_eq_false c5, Bool.and_false]
                by_cases c6 : kk < y.length
                · have hy := List.getElem?_eq_getElem c6
                  generalize y[kk] = f at hy
                  refine qT rfl (decide_eq_true (by rw [hfl']; show (kk : Int) < _; omega)) ?_
                  refine qXi (g := eF) rfl (by show 0 ≤ (kk : Int); omega) (by show y[((kk : Int)).toNat]? = _; rw [Int.toNat_natCast]; exact hy) ?_
                  refine qA 64 rfl rfl ?_ ?_; rotate_left
                  refine qB (ih _ (iadd .i64 kk 1, fs out ++ [eF f]) (next64 (by omega)) hlt (jold1 f hy hn)) (by kernel_rfl)
                  rw [List.length_map]; simp; omega
                · refine qN rfl (decide_eq_false (by rw [hfl']; show ¬ (kk : Int) < _; omega)) ?_
                  refine qB (ih _ (iadd .i64 kk 1, fs out) (next64 (by omega)) hlt (jold2 (by omega) hn)) (by kernel_rfl)
            · refine qN rfl (decide_eq_false c4) ?_
              have hn : newO e.Purities.length q.2 = false := by rw [hnO, decide_eq_false c3, decide_eq_false c4]; rfl
              by_cases c6 : kk < y.length
              · have hy := List.getElem?_eq_getElem c6
                generalize y[kk] = f at hy
                refine qT rfl (decide_eq_true (by rw [hfl']; show (kk : Int) < _; omega)) ?_
                refine qXi (g := eF) rfl (by show 0 ≤ (kk : Int); omega) (by show y[((kk : Int)).toNat]? = _; rw [Int.toNat_natCast]; exact hy) ?_
                refine qA 64 rfl rfl ?_ ?_; rotate_left
                refine qB (ih _ (iadd .i64 kk 1, fs out ++ [eF f]) (next64 (by omega)) hlt (jold1 f hy hn)) (by kernel_rfl)
                rw [List.length_map]; simp; omega
              · refine qN rfl (decide_eq_false (by rw [hfl']; show ¬ (kk : Int) < _; omega)) ?_
                refine qB (ih _ (iadd .i64 kk 1, fs out) (next64 (by omega)) hlt (jold2 (by omega) hn)) (by kernel_rfl)
        · refine qN rfl (decide_eq_false (by omega)) ?_
          clear ih
          obtain rfl : j = R.length := by omega
          rw [List.drop_length] at hw hcnt
          have hw : wideF e.Purities.length R y = out := by rw [hw]; show out ++ [] = out; rw [List.append_nil]
          have hcnt : kk = (olds e.Purities.length R).length := hcnt
          have hoR : olds e.Purities.length R = rowsE e := by rw [← hR]; exact rows_add e p
          by_cases hk : kk = y.length
          · refine qN rfl (by rw [hfl']; show ((kk : Int) != (y.length : Int)) = false; rw [hk]; simp) ?_
            have hyl : y.length = (rowsE e).length := by rw [← hk, hcnt, hoR]
            have hm4 : e.Moves.length ≤ 14 := by omega
            have hWd := wide_ok e.Purities.length R y (by rw [hoR, hyl])
            have hWY : YOk out 20 := by rw [← hw]; exact wide_y hys hWd (by rw [← hR]; have := news_len e p; omega)
            have p1 := paper_e (b := b) (grams := grams) hE2 hWY hbm
            have p2 := paper_e (b := b) (grams := grams) hE.1 hY hbm
            have i1 := impos_e hE2 hWY
            have i2 := impos_e hE.1 hY
            have e1 : papB (addP e p) b grams out = papB e b grams y := by rw [← hw, ← hR]; exact narrow_pap hf2 hf1 hm4 hyl
            have e2 : impB (addP e p) out = impB e y := by rw [← hw, ← hR]; exact narrow_imp hf2 hf1 hm4 hyl
            rw [e1] at p1
            rw [e2] at i1
            refine qT rfl rfl ?_
            refine qK rfl (p1) rfl ?_
            refine qK rfl (p2) rfl ?_
            refine qT rfl (decide_eq_true (by first | omega | (simp; done) | (simp; omega))) ?_
            refine qK rfl (i1) rfl ?_
            refine qK rfl (i2) rfl ?_
            refine qE rfl (by kernel_rfl) (by kernel_rfl) ?_
            refine qR rfl ⟨congrArg B ?_, rfl⟩; rotate_left
            all_goals simp
          · refine qT rfl (by rw [hfl']; show ((kk : Int) != (y.length : Int)) = true; rw [bne_iff_ne]; omega) ?_
            exact qR rfl ⟨rfl, rfl⟩
      · refine qT rfl (by simp [hf2]) ?_
        exact qR rfl ⟨rfl, rfl⟩
    · refine qT rfl (by simp [hf1]) ?_
      exact qR rfl ⟨rfl, rfl⟩
    all_goals (simp; omega)
end Go.Proofs.YteekaonhdckicaaGreatDoor.Dp

