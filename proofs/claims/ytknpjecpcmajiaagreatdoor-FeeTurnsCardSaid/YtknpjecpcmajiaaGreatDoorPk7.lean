/- Several texts in one, for FeeTurns.card: what the theorem leans on. -/
import Derived.Lib.ItoaLen
import Derived.Test.YtknpjecpcmajiaaGreatDoorPk6
set_option maxHeartbeats 1000000
set_option maxRecDepth 1000000
namespace Go.Proofs.YtknpjecpcmajiaaGreatDoor.Fe
open Go Rt M Ta Tp D
def com (o : Int) : Bool := o == 5 || o == 7 || o == 9 || o == 10 || o == 13 || o == 15 || o == 16
mutual
def tu : M.Expr → M.Expr
  | ⟨o, n, s, l⟩ => ⟨o, n, s, bif com o then (tus l).reverse else tus l⟩
def tus : List M.Expr → List M.Expr
  | [] => []
  | x :: l => tu x :: tus l
 end
theorem d4y (o n : Int) (s : Rt.Bs) (l : List M.Expr) : tu ⟨o, n, s, l⟩ = ⟨o, n, s, bif com o then (tus l).reverse else tus l⟩ := by rw [tu]
theorem c2b (a b : Int) : wd a b = wd b a := by
 unfold wd; rw [Bool.or_comm]
theorem c9f {names : List Rt.Bs} {x : M.Expr} {k : Int} (h : Typ names x k) : Typ names (tu x) k := by
 induction h with
 | num h1 h2 => exact Typ.num h1 h2
 | lifts h1 h2 => exact Typ.lifts h1 h2
 | pers => exact Typ.pers
 | flats => exact Typ.flats
 | wgt h1 h2 => exact Typ.wgt h1 h2
 | @ari o a b p q ho _ _ hp hq ha hb =>
  rcases ho with rfl | rfl | rfl | rfl
  ·rw [c2b]; exact Typ.ari (o := 5) (.inl rfl) hb ha hq hp
  ·exact Typ.ari (o := 6) (.inr (.inl rfl)) ha hb hp hq
  ·rw [c2b]; exact Typ.ari (o := 9) (.inr (.inr (.inl rfl))) hb ha hq hp
  ·rw [c2b]; exact Typ.ari (o := 10) (.inr (.inr (.inr rfl))) hb ha hq hp
 | @mul a b p q _ _ hp hq hn ha hb => rw [c2b]; exact Typ.mul hb ha hq hp (fun h => hn ⟨h.2, h.1⟩)
 | div _ hp h1 h2 ha => exact Typ.div ha hp h1 h2
 | ite _ _ _ hp hq hc ha hb => exact Typ.ite hc ha hb hp hq
 | @rel o a b ho _ _ ha hb =>
  rcases ho with rfl | rfl
  ·exact Typ.rel (o := 12) (.inl rfl) ha hb
  ·exact Typ.rel (o := 13) (.inr rfl) hb ha
 | not _ ha => exact Typ.not ha
 | @bin o a b ho _ _ ha hb =>
  rcases ho with rfl | rfl
  ·exact Typ.bin (o := 15) (.inl rfl) hb ha
  ·exact Typ.bin (o := 16) (.inr rfl) hb ha
theorem c2f (o n : Int) (s : Rt.Bs) (a b : M.Expr) : cnt ⟨o, n, s, [a, b]⟩ = cnt a + (cnt b + 0) + 1 := rfl
theorem c1x (o n : Int) (s : Rt.Bs) (a b : M.Expr) : dep ⟨o, n, s, [a, b]⟩ = max (dep a) (max (dep b) 0) + 1 := rfl
theorem d5g {names : List Rt.Bs} {x : M.Expr} {k : Int} (h : Typ names x k) : cnt (tu x) = cnt x ∧ dep (tu x) = dep x := by
 have sw : ∀ {o : Int} {a b : M.Expr}, com o = true → (cnt (tu a) = cnt a ∧ dep (tu a) = dep a) → (cnt (tu b) = cnt b ∧ dep (tu b) = dep b) → cnt (tu ⟨o, 0, [], [a, b]⟩) = cnt ⟨o, 0, [], [a, b]⟩ ∧ dep (tu ⟨o, 0, [], [a, b]⟩) = dep ⟨o, 0, [], [a, b]⟩ := by
  intro o a b ho ha hb
  have e : tu ⟨o, 0, [], [a, b]⟩ = ⟨o, 0, [], [tu b, tu a]⟩ := by rw [d4y, ho]; rfl
  rw [e, c2f, c2f, c1x, c1x]
  exact ⟨by omega, by omega⟩
 have st : ∀ {o : Int} {a b : M.Expr}, com o = false → (cnt (tu a) = cnt a ∧ dep (tu a) = dep a) → (cnt (tu b) = cnt b ∧ dep (tu b) = dep b) → cnt (tu ⟨o, 0, [], [a, b]⟩) = cnt ⟨o, 0, [], [a, b]⟩ ∧ dep (tu ⟨o, 0, [], [a, b]⟩) = dep ⟨o, 0, [], [a, b]⟩ := by
  intro o a b ho ha hb
  have e : tu ⟨o, 0, [], [a, b]⟩ = ⟨o, 0, [], [tu a, tu b]⟩ := by rw [d4y, ho]; rfl
  rw [e, c2f, c2f, c1x, c1x]
  exact ⟨by omega, by omega⟩
 induction h with
 | num h1 h2 => exact ⟨rfl, rfl⟩
 | lifts h1 h2 => exact ⟨rfl, rfl⟩
 | pers => exact ⟨rfl, rfl⟩
 | flats => exact ⟨rfl, rfl⟩
 | wgt h1 h2 => exact ⟨rfl, rfl⟩
 | ari ho _ _ hp hq ha hb =>
  rcases ho with rfl | rfl | rfl | rfl
  ·exact sw rfl ha hb
  ·exact st rfl ha hb
  ·exact sw rfl ha hb
  ·exact sw rfl ha hb
 | mul _ _ hp hq hn ha hb => exact sw rfl ha hb
 | div _ hp h1 h2 ha => exact st rfl ha ⟨rfl, rfl⟩
 | @ite c a b p q _ _ _ hp hq hc ha hb =>
  have c3 : ∀ x y z : M.Expr, cnt ⟨11, 0, [], [x, y, z]⟩ = cnt x + (cnt y + (cnt z + 0)) + 1 := fun _ _ _ => rfl
  have d3 : ∀ x y z : M.Expr, dep ⟨11, 0, [], [x, y, z]⟩ = max (dep x) (max (dep y) (max (dep z) 0)) + 1 := fun _ _ _ => rfl
  show cnt ⟨11, 0, [], [tu c, tu a, tu b]⟩ = _ ∧ dep ⟨11, 0, [], [tu c, tu a, tu b]⟩ = _
  rw [c3, c3, d3, d3]
  exact ⟨by omega, by omega⟩
 | rel ho _ _ ha hb =>
  rcases ho with rfl | rfl
  ·exact st rfl ha hb
  ·exact sw rfl ha hb
 | @not a _ ha =>
  have c1 : ∀ x : M.Expr, cnt ⟨14, 0, [], [x]⟩ = cnt x + 0 + 1 := fun _ => rfl
  have d1 : ∀ x : M.Expr, dep ⟨14, 0, [], [x]⟩ = max (dep x) 0 + 1 := fun _ => rfl
  show cnt ⟨14, 0, [], [tu a]⟩ = _ ∧ dep ⟨14, 0, [], [tu a]⟩ = _
  rw [c1, c1, d1, d1]
  exact ⟨by omega, by omega⟩
 | bin ho _ _ ha hb =>
  rcases ho with rfl | rfl
  ·exact sw rfl ha hb
  ·exact sw rfl ha hb
theorem c9a (a b : Rat) : (if b < a then b else a) = if a < b then a else b := by
 by_cases h1 : b < a
 ·rw [if_pos h1, if_neg (Rat.not_lt.2 (Rat.le_of_lt h1))]
 ·rw [if_neg h1]
  by_cases h2 : a < b
  ·rw [if_pos h2]
  ·rw [if_neg h2]; exact Rat.le_antisymm (Rat.not_lt.1 h1) (Rat.not_lt.1 h2)
theorem d1a (a b : Rat) : (if a < b then b else a) = if b < a then a else b := by
 by_cases h1 : a < b
 ·rw [if_pos h1, if_neg (Rat.not_lt.2 (Rat.le_of_lt h1))]
 ·rw [if_neg h1]
  by_cases h2 : b < a
  ·rw [if_pos h2]
  ·rw [if_neg h2]; exact Rat.le_antisymm (Rat.not_lt.1 h2) (Rat.not_lt.1 h1)
theorem d6o {names : List Rt.Bs} (E : Env) {x : M.Expr} {k : Int} (h : Typ names x k) : vl E (tu x) = vl E x := by
 have v2 : ∀ (o : Int) (a b : M.Expr), vl E ⟨o, 0, [], [a, b]⟩ = (two o (vl E a).1 (vl E b).1, rel o (vl E a) (vl E b)) := fun _ _ _ => rfl
 induction h with
 | num h1 h2 => rfl
 | lifts h1 h2 => rfl
 | pers => rfl
 | flats => rfl
 | wgt h1 h2 => rfl
 | @ari o a b p q ho _ _ hp hq ha hb =>
  rcases ho with rfl | rfl | rfl | rfl
  ·show vl E ⟨5, 0, [], [tu b, tu a]⟩ = _
   rw [v2, v2, ha, hb, c8e, c8e, Rat.add_comm]
   exact congrArg _ (Bool.or_comm ..)
  ·show vl E ⟨6, 0, [], [tu a, tu b]⟩ = _
   rw [v2, v2, ha, hb]
  ·show vl E ⟨9, 0, [], [tu b, tu a]⟩ = _
   rw [v2, v2, ha, hb, c5d, c5d, c9a]
   exact congrArg _ (Bool.or_comm ..)
  ·show vl E ⟨10, 0, [], [tu b, tu a]⟩ = _
   rw [v2, v2, ha, hb, c5o, c5o, d1a]
   exact congrArg _ (Bool.or_comm ..)
 | @mul a b p q _ _ hp hq hn ha hb =>
  show vl E ⟨7, 0, [], [tu b, tu a]⟩ = _
  rw [v2, v2, ha, hb, d0e, d0e, Rat.mul_comm]
  exact congrArg _ (Bool.or_comm ..)
 | @div a m p _ hp h1 h2 ha =>
  show vl E ⟨8, 0, [], [tu a, ⟨0, m, [], []⟩]⟩ = _
  rw [v2, v2, ha]
 | @ite c a b p q _ _ _ hp hq hc ha hb =>
  show vl E ⟨11, 0, [], [tu c, tu a, tu b]⟩ = _
  have v3 : ∀ x y z : M.Expr, vl E ⟨11, 0, [], [x, y, z]⟩ = (if (vl E x).2 = true then (vl E y).1 else (vl E z).1, false) := fun _ _ _ => rfl
  rw [v3, v3, hc, ha, hb]
 | @rel o a b ho _ _ ha hb =>
  rcases ho with rfl | rfl
  ·show vl E ⟨12, 0, [], [tu a, tu b]⟩ = _
   rw [v2, v2, ha, hb]
  ·show vl E ⟨13, 0, [], [tu b, tu a]⟩ = _
   rw [v2, v2, ha, hb, c3q, c3q]
   exact congrArg _ (by rw [decide_eq_decide]; exact eq_comm)
 | @not a _ ha =>
  show vl E ⟨14, 0, [], [tu a]⟩ = _
  have v1 : ∀ x : M.Expr, vl E ⟨14, 0, [], [x]⟩ = (0, !(vl E x).2) := fun _ => rfl
  rw [v1, v1, ha]
 | @bin o a b ho _ _ ha hb =>
  rcases ho with rfl | rfl
  ·show vl E ⟨15, 0, [], [tu b, tu a]⟩ = _
   rw [v2, v2, ha, hb, c8t, c8t, Bool.and_comm]; rfl
  ·show vl E ⟨16, 0, [], [tu b, tu a]⟩ = _
   rw [v2, v2, ha, hb, d3c, d3c, Bool.or_comm]; rfl
theorem d3w {names : List Rt.Bs} {x : M.Expr} {k : Int} (h : Typ names x k) : Fit x := by
 have f2 : ∀ {o : Int} {a b : M.Expr}, Fit a → Fit b → Fit ⟨o, 0, [], [a, b]⟩ := fun ha hb => Fit.mk (by simp) (by
  intro y hy; simp only [List.mem_cons, List.not_mem_nil, or_false] at hy; rcases hy with rfl | rfl <;> first | exact ha | exact hb)
 induction h with
 | num => exact Fit.leaf _ _ _
 | lifts => exact Fit.leaf _ _ _
 | pers => exact Fit.leaf _ _ _
 | flats => exact Fit.leaf _ _ _
 | wgt => exact Fit.leaf _ _ _
 | ari _ _ _ _ _ ha hb => exact f2 ha hb
 | mul _ _ _ _ _ ha hb => exact f2 ha hb
 | div _ _ _ _ ha => exact f2 ha (Fit.leaf _ _ _)
 | ite _ _ _ _ _ hc ha hb =>
  exact Fit.mk (by simp) (by
   intro y hy; simp only [List.mem_cons, List.not_mem_nil, or_false] at hy; rcases hy with rfl | rfl | rfl <;> first | exact hc | exact ha | exact hb)
 | rel _ _ _ ha hb => exact f2 ha hb
 | not _ ha =>
  exact Fit.mk (by simp) (by intro y hy; simp only [List.mem_cons, List.not_mem_nil, or_false] at hy; rcases hy with rfl; exact ha)
 | bin _ _ _ ha hb => exact f2 ha hb
def tuT (t : Tariff) : Tariff := { t with Fee := tu t.Fee }
theorem d6z {names : List Rt.Bs} {t : Tariff} (h : Chk names t) : Chk names (tuT t) := by
 obtain ⟨h1, ⟨h2, ⟨⟨d, c⟩, s⟩, h4⟩, k, hk, ht⟩ := h
 obtain ⟨e1, e2⟩ := d5g ht
 exact ⟨h1, ⟨h2, ⟨⟨by show dep (tu t.Fee) ≤ 10; omega, by show cnt (tu t.Fee) ≤ 100; omega⟩, (c9f ht).shx⟩, h4⟩, k, hk, c9f ht⟩
end Go.Proofs.YtknpjecpcmajiaaGreatDoor.Fe

namespace Go.Proofs.YtknpjecpcmajiaaGreatDoor.Pr
open Go Rt M Ta Tp
def sgn (o : Int) : Rt.Bs :=
  if o = 5 then [43] else if o = 6 then [45] else if o = 7 then [42] else if o = 8 then [47] else if o = 12 then [60] else if o = 13 then [61] else if o = 15 then [97, 110, 100] else [111, 114]
def txo (o n : Int) (s : Rt.Bs) : List (Rt.Bs × Rt.Bs) → Rt.Bs
  | [] => if o = 0 then Lib.itoa n else if o = 2 then [112, 101, 114, 115, 111, 110, 115] else if o = 3 then [102, 108, 97, 116, 115] else if o = 1 then ([108, 105, 102, 116, 115, 32, 40, 32] ++ s) ++ [32, 41] else ([119, 101, 105, 103, 104, 116, 32, 40, 32] ++ s) ++ [32, 41]
  | [a] => [110, 111, 116, 32] ++ a.2
  | [a, b] => if o = 9 then ((([109, 105, 110, 32, 40, 32] ++ a.1) ++ [32, 44, 32]) ++ b.1) ++ [32, 41] else if o = 10 then ((([109, 97, 120, 32, 40, 32] ++ a.1) ++ [32, 44, 32]) ++ b.1) ++ [32, 41] else (((a.2 ++ [32]) ++ sgn o) ++ [32]) ++ b.2
  | a :: b :: c :: _ => (((([105, 102, 32] ++ a.2) ++ [32, 116, 104, 101, 110, 32]) ++ b.2) ++ [32, 101, 108, 115, 101, 32]) ++ c.2
def ato (o : Int) (l : List M.Expr) (t : Rt.Bs) : Rt.Bs := bif (!l.isEmpty && o != 9) && o != 10 then ([40, 32] ++ t) ++ [32, 41] else t
mutual
def ta : M.Expr → Rt.Bs × Rt.Bs
  | ⟨o, n, s, l⟩ => (txo o n s (tas l), ato o l (txo o n s (tas l)))
def tas : List M.Expr → List (Rt.Bs × Rt.Bs)
  | [] => []
  | x :: l => ta x :: tas l
 end
theorem a3u {a b : Rt.Bs} (h : a.length + b.length ≤ 1000000000) : scat a b = some (a ++ b) := by unfold scat; rw [if_pos (by omega)]
theorem b6w {s : Rt.Bs} (h : Lx.name s = true) : s.length ≤ 20 := by
 unfold Lx.name at h
 simp only [Bool.and_eq_true, decide_eq_true_eq] at h
 omega
def TxOk (x : M.Expr) : Prop := (Ev (fun n => tariff_text n x) (ta x).1 ∧ Ev (fun n => tariff_atomic n x) (ta x).2) ∧ (ta x).1.length ≤ 80 * cnt x ∧ (ta x).2.length ≤ 80 * cnt x + 4
theorem a8o {o n : Int} {s : Rt.Bs} {l : List M.Expr} (ht : Ev (fun m => tariff_text m ⟨o, n, s, l⟩) (ta ⟨o, n, s, l⟩).1) (hl : (ta ⟨o, n, s, l⟩).1.length ≤ 80 * cnt ⟨o, n, s, l⟩) (hc : cnt ⟨o, n, s, l⟩ ≤ 1000) : TxOk ⟨o, n, s, l⟩ := by
 have e : (ta ⟨o, n, s, l⟩).2 = ato o l (ta ⟨o, n, s, l⟩).1 := rfl
 refine ⟨⟨ht, ?_⟩, hl, ?_⟩
 ·rw [e]
  refine Ev.suc (fun m => b3s m _) ?_
  have hlen : decide (0 < (l.length : Int)) = !l.isEmpty := by cases l with
   | nil => rfl
   | cons => simp only [List.length_cons, List.isEmpty_cons, Bool.not_false, decide_eq_true_eq]; omega
  have h1 : (bif decide (0 < (l.length : Int)) then some (o != 9) else some false) = some (!l.isEmpty && o != 9) := by rw [hlen]; cases l.isEmpty <;> rfl
  refine Ev.step (a := !l.isEmpty && o != 9) h1 ?_
  have h2 : ∀ c : Bool, (bif c then some (o != 10) else some false) = some (c && o != 10) := fun c => by cases c <;> rfl
  refine Ev.step (h2 _) ?_
  unfold ato
  cases (!l.isEmpty && o != 9) && o != 10 with
  | true => exact Ev.then rfl (Ev.bind ht (Ev.step (a3u (by simp only [List.length_cons, List.length_nil]; omega)) (Ev.step (a3u (by simp only [List.length_append, List.length_cons, List.length_nil]; omega)) (Ev.pure _))))
  | false => exact Ev.else rfl (Ev.bind ht (Ev.pure _))
 ·rw [e]; unfold ato
  cases (!l.isEmpty && o != 9) && o != 10 with
  | true => simp only [cond_true, List.length_append, List.length_cons, List.length_nil]; omega
  | false => simp only [cond_false]; omega
def ops : List (Rt.Bs × Int) := [([43], 5), ([45], 6), ([42], 7), ([47], 8), ([60], 12), ([61], 13), ([97, 110, 100], 15), ([111, 114], 16)]
theorem b5w (n : Nat) : a4h n = some ops := rfl
theorem a4k {o : Int} {l : List M.Expr} {k : Nat} (h : (l.length : Int) = b8a o) (hk : b8a o = k) : l.length = k := by omega
theorem d3x {x : M.Expr} (hs : Shx x) : cnt x ≤ 1000 → TxOk x := by
 induction hs with
 | @mk o n s l h0 h16 hl hno _ ih =>
  intro hc
  have hcc : cnt ⟨o, n, s, l⟩ = cnts l + 1 := rfl
  have bin : (o = 5 ∨ o = 6 ∨ o = 7 ∨ o = 8 ∨ o = 12 ∨ o = 13 ∨ o = 15 ∨ o = 16) → TxOk ⟨o, n, s, l⟩ := by
   intro ho
   have hl2 : l.length = 2 := a4k hl (by unfold b8a; rw [if_neg (by omega), if_neg (by omega), if_neg (by omega)]; rfl)
   obtain ⟨a, b, rfl⟩ : ∃ a b, l = [a, b] := by
    match l, hl2 with
    | [a, b], _ => exact ⟨a, b, rfl⟩
   have hcab : cnt ⟨o, n, s, [a, b]⟩ = cnt a + (cnt b + 0) + 1 := rfl
   obtain ⟨⟨_, ea⟩, _, la⟩ := ih a (by simp) (by omega)
   obtain ⟨⟨_, eb⟩, _, lb⟩ := ih b (by simp) (by omega)
   have hsg : (sgn o).length ≤ 3 := by rcases ho with rfl | rfl | rfl | rfl | rfl | rfl | rfl | rfl <;> decide
   have hf : List.find? (fun (q : Bs × Int) => q.2 == o) ops = some (sgn o, o) := by rcases ho with rfl | rfl | rfl | rfl | rfl | rfl | rfl | rfl <;> rfl
   have et : (ta ⟨o, n, s, [a, b]⟩).1 = ((((ta a).2 ++ [32]) ++ sgn o) ++ [32]) ++ (ta b).2 := by
    show (if o = 9 then _ else if o = 10 then _ else (((ta a).2 ++ [32]) ++ sgn o) ++ [32] ++ (ta b).2) = _
    rw [if_neg (by omega), if_neg (by omega)]
   refine a8o ?_ ?_ hc
   ·rw [et]
    refine Ev.suc (fun m => a4e m _) ?_
    have e : ∀ k : Int, (k = 0 ∨ k = 1 ∨ k = 2 ∨ k = 3 ∨ k = 4 ∨ k = 9 ∨ k = 10 ∨ k = 14 ∨ k = 11) → (o == k) = false := fun k hk => by rw [beq_eq_false_iff_ne]; omega
    refine Ev.else (e 0 (by decide)) (Ev.else (e 2 (by decide)) (Ev.else (e 3 (by decide)) (Ev.else (e 1 (by decide)) (Ev.else (e 4 (by decide)) (Ev.else (e 9 (by decide)) (Ev.else (e 10 (by decide)) (Ev.else (e 14 (by decide)) (Ev.else (e 11 (by decide)) ?_))))))))
    refine Ev.bind (Ev.all fun m => b5w m) ?_
    refine Ev.from (g := fun m => (ix [a, b] 0).bind fun ex10 => (tariff_atomic m ex10).bind fun v12 => (scat v12 [32]).bind fun t19 => (scat t19 (sgn o)).bind fun t20 => (scat t20 [32]).bind fun t21 => (ix [a, b] 1).bind fun ex11 => (tariff_atomic m ex11).bind fun v13 => (scat t21 v13).bind fun t22 => some t22) 9 (fun m hm => ?_) ?_
    ·show c0q m ops.length (match List.find? (fun (q : Bs × Int) => q.2 == o) ops with | none => some [] | some q => _) = _
     unfold c0q
     rw [if_neg (by show ¬m ≤ 8; omega), hf]
    ·refine Ev.step (a := a) rfl (Ev.bind ea (Ev.step (a3u ?_) (Ev.step (a3u ?_) (Ev.step (a3u ?_) (Ev.step (a := b) rfl (Ev.bind eb (Ev.step (a3u ?_) (Ev.pure _))))))))
     all_goals simp only [List.length_append, List.length_cons, List.length_nil]; omega
   ·rw [et]; simp only [List.length_append, List.length_cons, List.length_nil]; omega
  have hcs : o = 0 ∨ o = 1 ∨ o = 2 ∨ o = 3 ∨ o = 4 ∨ o = 9 ∨ o = 10 ∨ o = 11 ∨ o = 14 ∨ (o = 5 ∨ o = 6 ∨ o = 7 ∨ o = 8 ∨ o = 12 ∨ o = 13 ∨ o = 15 ∨ o = 16) := by omega
  rcases hcs with rfl | rfl | rfl | rfl | rfl | rfl | rfl | rfl | rfl | ho
  ·obtain rfl : l = [] := List.length_eq_zero_iff.1 (a4k hl rfl)
   unfold a5w at hno
   rw [if_pos rfl] at hno
   have hi := Lib.itoa_length_le n (by omega) (by omega)
   refine a8o ?_ (by show (Lib.itoa n).length ≤ 80 * 1; omega) hc
   refine Ev.suc (fun m => a4e m _) (Ev.then rfl (Ev.step (a := Lib.itoa n) ?_ (Ev.pure _)))
   show (if -9223372036854775808 ≤ n ∧ n ≤ 9223372036854775807 then some (Lib.itoa n) else none) = _
   rw [if_pos (by omega)]
  ·obtain rfl : l = [] := List.length_eq_zero_iff.1 (a4k hl rfl)
   unfold a5w at hno
   rw [if_neg (by decide), if_pos (by decide)] at hno
   have hn := b6w hno.2
   refine a8o ?_ (by show (([108, 105, 102, 116, 115, 32, 40, 32] ++ s) ++ [32, 41]).length ≤ 80 * 1; simp only [List.length_append, List.length_cons, List.length_nil]; omega) hc
   refine Ev.suc (fun m => a4e m _) (Ev.else rfl (Ev.else rfl (Ev.else rfl (Ev.then rfl (Ev.step (a3u ?_) (Ev.step (a3u ?_) (Ev.pure _)))))))
   all_goals simp only [List.length_append, List.length_cons, List.length_nil]; omega
  ·obtain rfl : l = [] := List.length_eq_zero_iff.1 (a4k hl rfl)
   refine a8o ?_ (by show 7 ≤ 80 * 1; decide) hc
   exact Ev.suc (fun m => a4e m _) (Ev.else rfl (Ev.then rfl (Ev.pure _)))
  ·obtain rfl : l = [] := List.length_eq_zero_iff.1 (a4k hl rfl)
   refine a8o ?_ (by show 5 ≤ 80 * 1; decide) hc
   exact Ev.suc (fun m => a4e m _) (Ev.else rfl (Ev.else rfl (Ev.then rfl (Ev.pure _))))
  ·obtain rfl : l = [] := List.length_eq_zero_iff.1 (a4k hl rfl)
   unfold a5w at hno
   rw [if_neg (by decide), if_pos (by decide)] at hno
   have hn := b6w hno.2
   refine a8o ?_ (by show (([119, 101, 105, 103, 104, 116, 32, 40, 32] ++ s) ++ [32, 41]).length ≤ 80 * 1; simp only [List.length_append, List.length_cons, List.length_nil]; omega) hc
   refine Ev.suc (fun m => a4e m _) (Ev.else rfl (Ev.else rfl (Ev.else rfl (Ev.else rfl (Ev.then rfl (Ev.step (a3u ?_) (Ev.step (a3u ?_) (Ev.pure _))))))))
   all_goals simp only [List.length_append, List.length_cons, List.length_nil]; omega
  ·have hl2 : l.length = 2 := a4k hl rfl
   obtain ⟨a, b, rfl⟩ : ∃ a b, l = [a, b] := by
    match l, hl2 with
    | [a, b], _ => exact ⟨a, b, rfl⟩
   have hcab : cnt ⟨9, n, s, [a, b]⟩ = cnt a + (cnt b + 0) + 1 := rfl
   obtain ⟨⟨ea, _⟩, la, _⟩ := ih a (by simp) (by omega)
   obtain ⟨⟨eb, _⟩, lb, _⟩ := ih b (by simp) (by omega)
   have et : (ta ⟨9, n, s, [a, b]⟩).1 = ((([109, 105, 110, 32, 40, 32] ++ (ta a).1) ++ [32, 44, 32]) ++ (ta b).1) ++ [32, 41] := rfl
   refine a8o ?_ ?_ hc
   ·rw [et]
    refine Ev.suc (fun m => a4e m _) (Ev.else rfl (Ev.else rfl (Ev.else rfl (Ev.else rfl (Ev.else rfl (Ev.then rfl ?_))))))
    refine Ev.step (a := a) rfl (Ev.bind ea (Ev.step (a3u ?_) (Ev.step (a3u ?_) (Ev.step (a := b) rfl (Ev.bind eb (Ev.step (a3u ?_) (Ev.step (a3u ?_) (Ev.pure _))))))))
    all_goals simp only [List.length_append, List.length_cons, List.length_nil]; omega
   ·rw [et]; simp only [List.length_append, List.length_cons, List.length_nil]; omega
  ·have hl2 : l.length = 2 := a4k hl rfl
   obtain ⟨a, b, rfl⟩ : ∃ a b, l = [a, b] := by
    match l, hl2 with
    | [a, b], _ => exact ⟨a, b, rfl⟩
   have hcab : cnt ⟨10, n, s, [a, b]⟩ = cnt a + (cnt b + 0) + 1 := rfl
   obtain ⟨⟨ea, _⟩, la, _⟩ := ih a (by simp) (by omega)
   obtain ⟨⟨eb, _⟩, lb, _⟩ := ih b (by simp) (by omega)
   have et : (ta ⟨10, n, s, [a, b]⟩).1 = ((([109, 97, 120, 32, 40, 32] ++ (ta a).1) ++ [32, 44, 32]) ++ (ta b).1) ++ [32, 41] := rfl
   refine a8o ?_ ?_ hc
   ·rw [et]
    refine Ev.suc (fun m => a4e m _) (Ev.else rfl (Ev.else rfl (Ev.else rfl (Ev.else rfl (Ev.else rfl (Ev.else rfl (Ev.then rfl ?_)))))))
    refine Ev.step (a := a) rfl (Ev.bind ea (Ev.step (a3u ?_) (Ev.step (a3u ?_) (Ev.step (a := b) rfl (Ev.bind eb (Ev.step (a3u ?_) (Ev.step (a3u ?_) (Ev.pure _))))))))
    all_goals simp only [List.length_append, List.length_cons, List.length_nil]; omega
   ·rw [et]; simp only [List.length_append, List.length_cons, List.length_nil]; omega
  ·have hl3 : l.length = 3 := a4k hl rfl
   obtain ⟨a, b, c, rfl⟩ : ∃ a b c, l = [a, b, c] := by
    match l, hl3 with
    | [a, b, c], _ => exact ⟨a, b, c, rfl⟩
   have hcab : cnt ⟨11, n, s, [a, b, c]⟩ = cnt a + (cnt b + (cnt c + 0)) + 1 := rfl
   obtain ⟨⟨_, ea⟩, _, la⟩ := ih a (by simp) (by omega)
   obtain ⟨⟨_, eb⟩, _, lb⟩ := ih b (by simp) (by omega)
   obtain ⟨⟨_, ec⟩, _, lc⟩ := ih c (by simp) (by omega)
   have et : (ta ⟨11, n, s, [a, b, c]⟩).1 = (((([105, 102, 32] ++ (ta a).2) ++ [32, 116, 104, 101, 110, 32]) ++ (ta b).2) ++ [32, 101, 108, 115, 101, 32]) ++ (ta c).2 := rfl
   refine a8o ?_ ?_ hc
   ·rw [et]
    refine Ev.suc (fun m => a4e m _) (Ev.else rfl (Ev.else rfl (Ev.else rfl (Ev.else rfl (Ev.else rfl (Ev.else rfl (Ev.else rfl (Ev.else rfl (Ev.then rfl ?_)))))))))
    refine Ev.step (a := a) rfl (Ev.bind ea (Ev.step (a3u ?_) (Ev.step (a3u ?_) (Ev.step (a := b) rfl (Ev.bind eb (Ev.step (a3u ?_) (Ev.step (a3u ?_) (Ev.step (a := c) rfl (Ev.bind ec (Ev.step (a3u ?_) (Ev.pure _)))))))))))
    all_goals simp only [List.length_append, List.length_cons, List.length_nil]; omega
   ·rw [et]; simp only [List.length_append, List.length_cons, List.length_nil]; omega
  ·have hl1 : l.length = 1 := a4k hl rfl
   obtain ⟨a, rfl⟩ : ∃ a, l = [a] := by
    match l, hl1 with
    | [a], _ => exact ⟨a, rfl⟩
   have hcab : cnt ⟨14, n, s, [a]⟩ = cnt a + 0 + 1 := rfl
   obtain ⟨⟨_, ea⟩, _, la⟩ := ih a (by simp) (by omega)
   have et : (ta ⟨14, n, s, [a]⟩).1 = [110, 111, 116, 32] ++ (ta a).2 := rfl
   refine a8o ?_ ?_ hc
   ·rw [et]
    refine Ev.suc (fun m => a4e m _) (Ev.else rfl (Ev.else rfl (Ev.else rfl (Ev.else rfl (Ev.else rfl (Ev.else rfl (Ev.else rfl (Ev.then rfl ?_))))))))
    refine Ev.step (a := a) rfl (Ev.bind ea (Ev.step (a3u ?_) (Ev.pure _)))
    simp only [List.length_cons, List.length_nil]; omega
   ·rw [et]; simp only [List.length_append, List.length_cons, List.length_nil]; omega
  ·exact bin ho
def ptx (t : Tariff) : Rt.Bs :=
  ((([116, 97, 114, 105, 102, 102, 32] ++ t.Name) ++ [32, 123, 32, 102, 101, 101, 32, 61, 32]) ++ (ta t.Fee).1 ++ [32, 59]) ++ (if t.Cap ≠ -1 then ([32, 99, 97, 112, 32, 61, 32] ++ Lib.itoa t.Cap) ++ [32, 59] else []) ++ [32, 125]
theorem print_ev {t : Tariff} (hx : Fit t.Fee) : Tt (fun r => (Wrt t ∧ r = (ptx t, true)) ∨ (¬Wrt t ∧ r = ([], false))) (fun n => b0v n t) := by
 unfold b0v
 obtain ⟨b, eb, hb⟩ := c1l hx
 refine Tt.evb eb ?_
 cases b with
 | false => exact Tt.bif (fun _ => Tt.pure (.inr ⟨fun h => (by have := hb.2 h; cases this), rfl⟩)) (fun h => by cases h)
 | true =>
  refine Tt.bif (fun h => by cases h) (fun _ => ?_)
  have hw : Wrt t := hb.1 rfl
  have hn := b6w hw.1
  have hc := hw.2.1.1.2
  obtain ⟨⟨et, _⟩, lt, _⟩ := d3x hw.2.1.2 (by omega)
  have hcap := hw.2.2
  have hi := Lib.itoa_length_le t.Cap (by omega) (by omega)
  refine Tt.of (r := (ptx t, true)) ?_ (.inl ⟨hw, rfl⟩)
  refine Ev.step (a3u ?_) (Ev.step (a3u ?_) (Ev.bind et (Ev.step (a3u ?_) (Ev.step (a3u ?_) ?_))))
  ·simp only [List.length_cons, List.length_nil]; omega
  ·simp only [List.length_append, List.length_cons, List.length_nil]; omega
  ·simp only [List.length_append, List.length_cons, List.length_nil]; omega
  ·simp only [List.length_append, List.length_cons, List.length_nil]; omega
  unfold ptx
  by_cases h1 : t.Cap = -1
  ·rw [if_neg (fun h => h h1), List.append_nil]
   refine Ev.bind (Ev.else (by rw [h1]; rfl) (Ev.pure _)) (Ev.step (a3u ?_) (Ev.pure _))
   simp only [List.length_append, List.length_cons, List.length_nil]; omega
  ·rw [if_pos h1]
   refine Ev.bind (Ev.then (by simpa using h1) (Ev.step (a := Lib.itoa t.Cap) ?_ (Ev.step (a3u ?_) (Ev.step (a3u ?_) (Ev.step (a3u ?_) (Ev.pure _)))))) (Ev.step (a3u ?_) (Ev.pure _))
   ·show (if -9223372036854775808 ≤ t.Cap ∧ t.Cap ≤ 9223372036854775807 then some (Lib.itoa t.Cap) else none) = _
    rw [if_pos (by omega)]
   all_goals simp only [List.length_append, List.length_cons, List.length_nil]; omega
end Go.Proofs.YtknpjecpcmajiaaGreatDoor.Pr

namespace Go.Proofs.YtknpjecpcmajiaaGreatDoor.Pr
open Go Rt M Ta Tp
def c3l (t : Token) : Token := ⟨t.Kind, t.Text, t.N, 0⟩
def Stop (r : Rt.Bs) : Prop := r = [] ∨ Lx.isInner (r.headD 0) = false
def Good (t : Token) : Prop := t.Pos = 0 ∧ Lx.isBlank (t.Text.headD 0) = false ∧ (t.Text.headD 0).toNat ≠ 35 ∧ t.Text ≠ [] ∧ ∀ r, Stop r → Lx.next (t.Text ++ r) = (t, t.Text.length, 0)
def Gap (g : Rt.Bs) : Prop := ∀ (c : UInt8) (r : Rt.Bs), Lx.isBlank c = false → c.toNat ≠ 35 → Lx.gapN false (g ++ c :: r) = g.length
inductive Laid : Rt.Bs → List Token → Prop
  | nil {z : Rt.Bs} : Lx.gapN false z = z.length → Laid z []
  | cons {g r : Rt.Bs} {t : Token} {ws : List Token} : Gap g → Good t → Stop r → Laid r ws → Laid (g ++ (t.Text ++ r)) (t :: ws)
theorem c9g {r : Rt.Bs} {ws : List Token} (h : Laid r ws) : ∀ f a : Nat, r.length < f → ∃ ts, Lx.scanF f r a = (ts, 0, 0) ∧ ts.map c3l = ws := by
 induction h with
 | nil h =>
  intro f a hf
  obtain ⟨f, rfl⟩ := left hf
  exact ⟨[], Lx.scanF_end h, rfl⟩
 | @cons g r t ws hg ht hr _ ih =>
  intro f a hf
  obtain ⟨f, rfl⟩ := left hf
  obtain ⟨h1, h2, h3, h4, h5⟩ := ht
  have e1 : Lx.gapN false (g ++ (t.Text ++ r)) = g.length := by
   cases hc : t.Text with
   | nil => exact absurd hc h4
   | cons c u => rw [hc] at h2 h3; exact hg c (u ++ r) h2 h3
  have e2 : (g ++ (t.Text ++ r)).drop g.length = t.Text ++ r := by simp
  have e3 : (g ++ (t.Text ++ r)).drop (g.length + t.Text.length) = r := by rw [← List.drop_drop, e2]; simp
  have hlen : 0 < t.Text.length := List.length_pos_iff.2 h4
  have hne : Lx.gapN false (g ++ (t.Text ++ r)) ≠ (g ++ (t.Text ++ r)).length := by rw [e1]; simp only [List.length_append]; omega
  obtain ⟨ts, e4, e5⟩ := ih f (a + g.length + t.Text.length) (by simp only [List.length_append] at hf; omega)
  have e6 := h5 r hr
  refine ⟨{ t with Pos := ((a + g.length : Nat) : Int) } :: ts, ?_, ?_⟩
  ·rw [Lx.scanF_more hne (by rw [e1, e2, e6]), e1, e2, e6]
   dsimp only
   rw [e3, e4]
   rfl
  ·rw [List.map_cons, e5]
   obtain ⟨k, s, n, p⟩ := t
   obtain rfl : p = 0 := h1
   rfl
theorem c7c {r : Rt.Bs} {ws : List Token} (h : Laid r ws) (hr : r.length ≤ 4000) : ∃ ts, Lx.scan r = (ts, 0, 0) ∧ ts.map c3l = ws := by
 unfold Lx.scan
 rw [if_neg (by omega)]
 exact c9g h _ _ (by omega)
theorem c8o {c : UInt8} {r : Rt.Bs} (h : Lx.isBlank c = false) (h2 : c.toNat ≠ 35) : Lx.gapN false (c :: r) = 0 := by
 rw [Lx.gapN, h, if_neg (by decide), if_neg h2]
theorem gap_nil : Gap [] := fun _ _ h h2 => c8o h h2
theorem c9k {g : Rt.Bs} {b : UInt8} (hb : Lx.isBlank b = true) (hg : Gap g) : Gap (b :: g) := fun c r h h2 => by
 show Lx.gapN false (b :: (g ++ c :: r)) = g.length + 1
 rw [Lx.gapN, hb, if_pos rfl, hg c r h h2]
theorem gap_one : Gap [32] := c9k (by decide) gap_nil
theorem b9l {p : UInt8 → Bool} : ∀ {s r : Rt.Bs}, Lx.spanN p s = s.length → (r = [] ∨ p (r.headD 0) = false) → Lx.spanN p (s ++ r) = s.length
 | [], r, _, h => by
  rcases h with rfl | h
  ·rfl
  ·cases r with
   | nil => rfl
   | cons c u =>
    have h : p c = false := h
    show Lx.spanN p (c :: u) = 0
    rw [Lx.spanN, h]; rfl
 | c :: s, r, h1, h => by
  have hle := Lx.spanN_le p s
  rw [Lx.spanN] at h1
  cases hp : p c with
  | false => rw [hp] at h1; simp at h1
  | true =>
   rw [hp, cond_true] at h1
   show Lx.spanN p (c :: (s ++ r)) = s.length + 1
   rw [Lx.spanN, hp, cond_true, b9l (by simpa using h1) h]
theorem c3d {p : UInt8 → Bool} : ∀ {s : Rt.Bs}, (∀ c, c ∈ s → p c = true) → Lx.spanN p s = s.length
 | [], _ => rfl
 | c :: s, h => by rw [Lx.spanN, h c (by simp), cond_true, c3d (fun d hd => h d (by simp [hd]))]; rfl
theorem c4t {p : UInt8 → Bool} (h : (List.range 256).all (fun k => p (UInt8.ofNat k)) = true) (c : UInt8) : p c = true := Lx.byte_all h c
theorem c4l (c : UInt8) (h : Lx.isLetter c = true) : Lx.isBlank c = false ∧ c.toNat ≠ 35 :=
 of_decide_eq_true (c4t (p := fun c => decide (Lx.isLetter c = true → Lx.isBlank c = false ∧ c.toNat ≠ 35)) (by decide +kernel) c) h
theorem c0e (c : UInt8) (h : Lx.isDigit c = true) : Lx.isBlank c = false ∧ c.toNat ≠ 35 ∧ Lx.isLetter c = false ∧ Lx.isInner c = true :=
 of_decide_eq_true (c4t (p := fun c => decide (Lx.isDigit c = true → Lx.isBlank c = false ∧ c.toNat ≠ 35 ∧ Lx.isLetter c = false ∧ Lx.isInner c = true)) (by decide +kernel) c) h
theorem c7a (c : UInt8) (h : Lx.isSign c = true) : Lx.isBlank c = false ∧ c.toNat ≠ 35 ∧ Lx.isLetter c = false ∧ Lx.isDigit c = false ∧ c.toNat ≠ 34 ∧ Lx.isInner c = false :=
 of_decide_eq_true (c4t (p := fun c => decide (Lx.isSign c = true → Lx.isBlank c = false ∧ c.toNat ≠ 35 ∧ Lx.isLetter c = false ∧ Lx.isDigit c = false ∧ c.toNat ≠ 34 ∧ Lx.isInner c = false)) (by decide +kernel) c) h
theorem c2s {s r : Rt.Bs} (h : s ≠ []) : (s ++ r).headD 0 = s.headD 0 := by
 cases s with
 | nil => exact absurd rfl h
 | cons c u => rfl
def wN (s : Rt.Bs) : Token := ⟨0, s, 0, 0⟩
def wS (c : UInt8) : Token := ⟨3, [c], 0, 0⟩
def wK (n : Int) : Token := ⟨1, Lib.itoa n, n, 0⟩
theorem a4o {s : Rt.Bs} (h : Lx.name s = true) : Good (wN s) := by
 have h0 := h
 unfold Lx.name at h
 simp only [Bool.and_eq_true, decide_eq_true_eq, beq_iff_eq, Bool.not_eq_true', List.isEmpty_eq_false_iff] at h
 obtain ⟨⟨⟨h1, h2⟩, h3⟩, h4⟩ := h
 have h5 := c4l _ h2
 refine ⟨rfl, h5.1, h5.2, h1, fun r hr => ?_⟩
 show Lx.next (s ++ r) = (wN s, s.length, 0)
 unfold Lx.next
 rw [c2s h1, h2, if_pos rfl, b9l h4 hr, List.take_left, h0, if_pos rfl]; rfl
theorem a6g {c : UInt8} (h : Lx.isSign c = true) : Good (wS c) := by
 obtain ⟨h1, h2, h3, h4, h5, _⟩ := c7a c h
 refine ⟨rfl, h1, h2, by simp [wS], fun r _ => ?_⟩
 show Lx.next (c :: r) = (wS c, 1, 0)
 unfold Lx.next
 rw [List.headD_cons, h3, if_neg (by decide), h4, if_neg (by decide), if_neg h5, h, if_pos rfl]; rfl
theorem d1h (l : Rt.Bs) (c : UInt8) : Lx.dec (l ++ [c]) = 10 * Lx.dec l + (c.toNat - 48) := by unfold Lx.dec; rw [List.foldl_append]; rfl
theorem c3b {k : Nat} (h : k < 10) : (UInt8.ofNat (48 + k)).toNat = 48 + k := by simp; omega
theorem d3b {k : Nat} (h : k < 10) : Lx.isDigit (UInt8.ofNat (48 + k)) = true := by
 unfold Lx.isDigit; rw [c3b h]; exact decide_eq_true (by omega)
theorem d3n (u : Nat) : Lx.dec (Lib.decDigits u) = u ∧ (∀ c, c ∈ Lib.decDigits u → Lx.isDigit c = true) ∧ Lib.decDigits u ≠ [] ∧ (u ≠ 0 → ((Lib.decDigits u).headD 0).toNat ≠ 48) := by
 induction u using Nat.strongRecOn with
 | _ u ih =>
  by_cases h : u < 10
  ·rw [Lib.decDigits, dif_pos h]
   refine ⟨?_, ?_, by simp, ?_⟩
   ·show 10 * 0 + ((UInt8.ofNat (48 + u)).toNat - 48) = u
    rw [c3b h]; omega
   ·intro c hc
    obtain rfl := List.mem_singleton.1 hc
    exact d3b h
   ·intro h0
    show (UInt8.ofNat (48 + u)).toNat ≠ 48
    rw [c3b h]; omega
  ·rw [Lib.decDigits, dif_neg h]
   obtain ⟨i1, i2, i3, i4⟩ := ih (u / 10) (by omega)
   refine ⟨?_, ?_, by simp, fun _ => ?_⟩
   ·rw [d1h, i1, c3b (by omega)]; omega
   ·intro c hc
    rcases List.mem_append.1 hc with hc | hc
    ·exact i2 c hc
    ·obtain rfl := List.mem_singleton.1 hc
     exact d3b (by omega)
   ·rw [c2s i3]; exact i4 (by omega)
theorem nDigits_le : ∀ (k u : Nat), u < 10 ^ (k + 1) → Lib.nDigits u ≤ k + 1
 | 0, u, h => by rw [Lib.nDigits_small (by simpa using h)]; omega
 | k + 1, u, h => by
  by_cases h1 : u < 10
  ·rw [Lib.nDigits_small h1]; omega
  ·rw [Lib.nDigits_big h1]
   have := nDigits_le k (u / 10) (by rw [Nat.pow_succ] at h; omega)
   omega
theorem d0c {u : Nat} (h : u ≤ 1099511627776) : Lx.number (Lib.decDigits u) = (u, true) ∧ (Lib.decDigits u).length ≤ 13 := by
 obtain ⟨h1, h2, h3, h4⟩ := d3n u
 have h5 := c3d h2
 have h6 : (Lib.decDigits u).length ≤ 13 := by rw [Lib.decDigits_length]; exact nDigits_le 12 u (by omega)
 have h7 : Lx.numberOk (Lib.decDigits u) = true := by
  unfold Lx.numberOk
  have e1 : (Lib.decDigits u).isEmpty = false := by simpa using h3
  have e2 : (!((Lib.decDigits u).headD 0 == 48 && !(Lib.decDigits u == [48]))) = true := by
   by_cases h0 : u = 0
   ·subst h0; rw [Lib.decDigits]; rfl
   ·have : ((Lib.decDigits u).headD 0 == 48) = false := by
     rw [beq_eq_false_iff_ne]
     intro e
     exact h4 h0 (by rw [e]; rfl)
    rw [this]; rfl
  rw [e1, h5, e2, decide_eq_true h6, beq_self_eq_true]; rfl
 refine ⟨?_, h6⟩
 unfold Lx.number
 rw [if_pos ⟨h7, by rw [h1]; exact h⟩, h1]
theorem c6b {n : Int} (h : 0 ≤ n) : Lib.itoa n = Lib.decDigits n.toNat := by unfold Lib.itoa; rw [if_neg (by omega)]
theorem c6q {n : Int} (h : 0 ≤ n) (h2 : n ≤ 1099511627776) : Good (wK n) := by
 obtain ⟨_, g2, g3, _⟩ := d3n n.toNat
 obtain ⟨h3, _⟩ := d0c (u := n.toNat) (by omega)
 have e : wK n = ⟨1, Lib.decDigits n.toNat, n, 0⟩ := by unfold wK; rw [c6b h]
 have hd : Lx.isDigit ((Lib.decDigits n.toNat).headD 0) = true := by
  cases hc : Lib.decDigits n.toNat with
  | nil => exact absurd hc g3
  | cons c u => exact g2 c (by rw [hc]; simp)
 obtain ⟨p1, p2, p3, _⟩ := c0e _ hd
 rw [e]
 refine ⟨rfl, p1, p2, g3, fun r hr => ?_⟩
 show Lx.next (Lib.decDigits n.toNat ++ r) = (⟨1, Lib.decDigits n.toNat, n, 0⟩, (Lib.decDigits n.toNat).length, 0)
 have hr2 : r = [] ∨ Lx.isDigit (r.headD 0) = false := by
  rcases hr with hr | hr
  ·exact .inl hr
  ·refine .inr ?_
   cases hx : Lx.isDigit (r.headD 0) with
   | false => rfl
   | true => have := (c0e _ hx).2.2.2; rw [hr] at this; cases this
 unfold Lx.next
 rw [c2s g3, p3, if_neg (by decide), hd, if_pos rfl, b9l (c3d g2) hr2, List.take_left, h3, if_pos rfl]
 show ((⟨1, Lib.decDigits n.toNat, ((n.toNat : Nat) : Int), 0⟩ : Token), (Lib.decDigits n.toNat).length, (0 : Int)) = _
 rw [Int.toNat_of_nonneg h]
end Go.Proofs.YtknpjecpcmajiaaGreatDoor.Pr

namespace Go.Proofs.YtknpjecpcmajiaaGreatDoor.Pr
open Go Rt M Ta Tp
def sp : List Token → Rt.Bs
  | [] => []
  | t :: ws => 32 :: (t.Text ++ sp ws)
theorem sp_app : ∀ a b : List Token, sp (a ++ b) = sp a ++ sp b
 | [], _ => rfl
 | t :: a, b => by show 32 :: (t.Text ++ sp (a ++ b)) = 32 :: (t.Text ++ sp a) ++ sp b; rw [sp_app a b]; simp
theorem d0a (ws : List Token) : Stop (sp ws) := by
 cases ws with
 | nil => exact .inl rfl
 | cons t ws => exact .inr (show Lx.isInner 32 = false by decide)
theorem sp_laid : ∀ {ws : List Token}, (∀ t, t ∈ ws → Good t) → Laid (sp ws) ws
 | [], _ => Laid.nil rfl
 | t :: ws, h => Laid.cons (g := [32]) gap_one (h t (by simp)) (d0a ws) (sp_laid fun u hu => h u (by simp [hu]))
def opw (o : Int) : Token := ⟨if o = 15 ∨ o = 16 then 0 else 3, sgn o, 0, 0⟩
def wdo (o n : Int) (s : Rt.Bs) : List (List Token × List Token) → List Token
  | [] => if o = 0 then [wK n] else if o = 2 then [wN [112, 101, 114, 115, 111, 110, 115]] else if o = 3 then [wN [102, 108, 97, 116, 115]] else [wN (if o = 1 then [108, 105, 102, 116, 115] else [119, 101, 105, 103, 104, 116]), wS 40, wN s, wS 41]
  | [a] => wN [110, 111, 116] :: a.2
  | [a, b] => if o = 9 ∨ o = 10 then wN (if o = 9 then [109, 105, 110] else [109, 97, 120]) :: wS 40 :: (a.1 ++ wS 44 :: (b.1 ++ [wS 41])) else a.2 ++ opw o :: b.2
  | a :: b :: c :: _ => wN [105, 102] :: (a.2 ++ wN [116, 104, 101, 110] :: (b.2 ++ wN [101, 108, 115, 101] :: c.2))
def wdp (o : Int) (l : List M.Expr) (w : List Token) : List Token := bif (!l.isEmpty && o != 9) && o != 10 then wS 40 :: (w ++ [wS 41]) else w
mutual
def wa : M.Expr → List Token × List Token
  | ⟨o, n, s, l⟩ => (wdo o n s (was l), wdp o l (wdo o n s (was l)))
def was : List M.Expr → List (List Token × List Token)
  | [] => []
  | x :: l => wa x :: was l
 end
def W1 (x : M.Expr) : Prop := 32 :: (ta x).1 = sp (wa x).1 ∧ (∀ t, t ∈ (wa x).1 → Good t) ∧ (ta x).1.length ≤ 31 * cnt x
def W2 (x : M.Expr) : Prop := 32 :: (ta x).2 = sp (wa x).2 ∧ (∀ t, t ∈ (wa x).2 → Good t) ∧ (ta x).2.length ≤ 31 * cnt x
theorem good40 : Good (wS 40) := a6g (by decide)
theorem good41 : Good (wS 41) := a6g (by decide)
theorem good44 : Good (wS 44) := a6g (by decide)
theorem d0r {o n : Int} {s : Rt.Bs} {l : List M.Expr} (h1 : 32 :: (ta ⟨o, n, s, l⟩).1 = sp (wa ⟨o, n, s, l⟩).1) (h2 : ∀ t, t ∈ (wa ⟨o, n, s, l⟩).1 → Good t) (h3 : (ta ⟨o, n, s, l⟩).1.length ≤ 31 * cnt ⟨o, n, s, l⟩) (h4 : l ≠ [] → (ta ⟨o, n, s, l⟩).1.length + 4 ≤ 31 * cnt ⟨o, n, s, l⟩) : W1 ⟨o, n, s, l⟩ ∧ W2 ⟨o, n, s, l⟩ := by
 refine ⟨⟨h1, h2, h3⟩, ?_⟩
 have e : (ta ⟨o, n, s, l⟩).2 = ato o l (ta ⟨o, n, s, l⟩).1 := rfl
 have e2 : (wa ⟨o, n, s, l⟩).2 = wdp o l (wa ⟨o, n, s, l⟩).1 := rfl
 unfold W2
 rw [e, e2]; unfold ato wdp
 cases hb : (!l.isEmpty && o != 9) && o != 10 with
 | true =>
  have hl : l ≠ [] := by
   intro h0
   rw [h0] at hb; cases hb
  have := h4 hl
  refine ⟨?_, ?_, ?_⟩
  ·rw [cond_true, cond_true]
   show _ = 32 :: 40 :: sp (_ ++ [wS 41])
   rw [sp_app, ← h1]
   show _ = 32 :: 40 :: ((32 :: (ta ⟨o, n, s, l⟩).1) ++ [32, 41])
   simp
  ·intro t ht
   rw [cond_true] at ht
   rcases List.mem_cons.1 ht with rfl | ht
   ·exact good40
   ·rcases List.mem_append.1 ht with ht | ht
    ·exact h2 t ht
    ·obtain rfl := List.mem_singleton.1 ht
     exact good41
  ·simp only [cond_true, List.length_append, List.length_cons, List.length_nil]; omega
 | false => exact ⟨h1, h2, h3⟩
theorem d1u {o : Int} (ho : o = 5 ∨ o = 6 ∨ o = 7 ∨ o = 8 ∨ o = 12 ∨ o = 13 ∨ o = 15 ∨ o = 16) : Good (opw o) := by
 rcases ho with rfl | rfl | rfl | rfl | rfl | rfl | rfl | rfl
 ·exact a6g (c := 43) (by decide)
 ·exact a6g (c := 45) (by decide)
 ·exact a6g (c := 42) (by decide)
 ·exact a6g (c := 47) (by decide)
 ·exact a6g (c := 60) (by decide)
 ·exact a6g (c := 61) (by decide)
 ·exact a4o (s := [97, 110, 100]) (by decide)
 ·exact a4o (s := [111, 114]) (by decide)
theorem c6a {x : M.Expr} (hs : Shx x) : W1 x ∧ W2 x := by
 induction hs with
 | @mk o n s l h0 h16 hl hno _ ih =>
  have hcc : cnt ⟨o, n, s, l⟩ = cnts l + 1 := rfl
  have leaf : l = [] → 32 :: (ta ⟨o, n, s, l⟩).1 = sp (wa ⟨o, n, s, l⟩).1 → (∀ t, t ∈ (wa ⟨o, n, s, l⟩).1 → Good t) → (ta ⟨o, n, s, l⟩).1.length ≤ 31 → W1 ⟨o, n, s, l⟩ ∧ W2 ⟨o, n, s, l⟩ := fun e h1 h2 h3 =>
   d0r h1 h2 (by omega) (fun h => absurd e h)
  have bin : (o = 5 ∨ o = 6 ∨ o = 7 ∨ o = 8 ∨ o = 12 ∨ o = 13 ∨ o = 15 ∨ o = 16) → W1 ⟨o, n, s, l⟩ ∧ W2 ⟨o, n, s, l⟩ := by
   intro ho
   have hl2 : l.length = 2 := a4k hl (by unfold b8a; rw [if_neg (by omega), if_neg (by omega), if_neg (by omega)]; rfl)
   obtain ⟨a, b, rfl⟩ : ∃ a b, l = [a, b] := by
    match l, hl2 with
    | [a, b], _ => exact ⟨a, b, rfl⟩
   have hcab : cnt ⟨o, n, s, [a, b]⟩ = cnt a + (cnt b + 0) + 1 := rfl
   obtain ⟨_, ea, ga, la⟩ := ih a (by simp)
   obtain ⟨_, eb, gb, lb⟩ := ih b (by simp)
   have hsg : (sgn o).length ≤ 3 := by rcases ho with rfl | rfl | rfl | rfl | rfl | rfl | rfl | rfl <;> decide
   have et : (ta ⟨o, n, s, [a, b]⟩).1 = ((((ta a).2 ++ [32]) ++ sgn o) ++ [32]) ++ (ta b).2 := by
    show (if o = 9 then _ else if o = 10 then _ else (((ta a).2 ++ [32]) ++ sgn o) ++ [32] ++ (ta b).2) = _
    rw [if_neg (by omega), if_neg (by omega)]
   have ew : (wa ⟨o, n, s, [a, b]⟩).1 = (wa a).2 ++ opw o :: (wa b).2 := by
    show (if o = 9 ∨ o = 10 then _ else (wa a).2 ++ opw o :: (wa b).2) = _
    rw [if_neg (by omega)]
   refine d0r ?_ ?_ ?_ (fun _ => ?_)
   ·rw [et, ew, sp_app]
    show _ = sp (wa a).2 ++ 32 :: (sgn o ++ sp (wa b).2)
    rw [← ea, ← eb]; simp
   ·intro t ht
    rw [ew] at ht
    rcases List.mem_append.1 ht with ht | ht
    ·exact ga t ht
    ·rcases List.mem_cons.1 ht with rfl | ht
     ·exact d1u ho
     ·exact gb t ht
   all_goals rw [et]; simp only [List.length_append, List.length_cons, List.length_nil]; omega
  have mm : ∀ (k : Rt.Bs), Lx.name k = true → k.length = 3 → (o = 9 ∧ k = [109, 105, 110] ∨ o = 10 ∧ k = [109, 97, 120]) → W1 ⟨o, n, s, l⟩ ∧ W2 ⟨o, n, s, l⟩ := by
   intro k hk hk3 ho
   have hl2 : l.length = 2 := a4k hl (by rcases ho with ⟨rfl, _⟩ | ⟨rfl, _⟩ <;> rfl)
   obtain ⟨a, b, rfl⟩ : ∃ a b, l = [a, b] := by
    match l, hl2 with
    | [a, b], _ => exact ⟨a, b, rfl⟩
   have hcab : cnt ⟨o, n, s, [a, b]⟩ = cnt a + (cnt b + 0) + 1 := rfl
   obtain ⟨⟨ea, ga, la⟩, _⟩ := ih a (by simp)
   obtain ⟨⟨eb, gb, lb⟩, _⟩ := ih b (by simp)
   have et : (ta ⟨o, n, s, [a, b]⟩).1 = (((k ++ [32, 40, 32] ++ (ta a).1) ++ [32, 44, 32]) ++ (ta b).1) ++ [32, 41] := by rcases ho with ⟨rfl, rfl⟩ | ⟨rfl, rfl⟩ <;> rfl
   have ew : (wa ⟨o, n, s, [a, b]⟩).1 = wN k :: wS 40 :: ((wa a).1 ++ wS 44 :: ((wa b).1 ++ [wS 41])) := by rcases ho with ⟨rfl, rfl⟩ | ⟨rfl, rfl⟩ <;> rfl
   refine d0r ?_ ?_ ?_ (fun _ => ?_)
   ·rw [et, ew]
    show _ = 32 :: (k ++ 32 :: 40 :: sp ((wa a).1 ++ wS 44 :: ((wa b).1 ++ [wS 41])))
    rw [sp_app]
    show _ = 32 :: (k ++ 32 :: 40 :: (sp (wa a).1 ++ 32 :: 44 :: sp ((wa b).1 ++ [wS 41])))
    rw [sp_app, ← ea, ← eb]
    show _ = 32 :: (k ++ 32 :: 40 :: (32 :: (ta a).1 ++ 32 :: 44 :: (32 :: (ta b).1 ++ [32, 41])))
    simp
   ·intro t ht
    rw [ew] at ht
    simp only [List.mem_cons, List.mem_append, List.not_mem_nil, or_false] at ht
    rcases ht with rfl | rfl | ht | rfl | ht | rfl
    ·exact a4o hk
    ·exact good40
    ·exact ga t ht
    ·exact good44
    ·exact gb t ht
    ·exact good41
   all_goals rw [et]; simp only [List.length_append, List.length_cons, List.length_nil]; omega
  have hcs : o = 0 ∨ o = 1 ∨ o = 2 ∨ o = 3 ∨ o = 4 ∨ o = 9 ∨ o = 10 ∨ o = 11 ∨ o = 14 ∨ (o = 5 ∨ o = 6 ∨ o = 7 ∨ o = 8 ∨ o = 12 ∨ o = 13 ∨ o = 15 ∨ o = 16) := by omega
  rcases hcs with rfl | rfl | rfl | rfl | rfl | rfl | rfl | rfl | rfl | ho
  ·obtain rfl : l = [] := List.length_eq_zero_iff.1 (a4k hl rfl)
   unfold a5w at hno
   rw [if_pos rfl] at hno
   have hi := (d0c (u := n.toNat) (by omega)).2
   have e : Lib.itoa n = Lib.decDigits n.toNat := c6b hno.1.1
   refine leaf rfl ?_ ?_ ?_
   ·show 32 :: Lib.itoa n = 32 :: (Lib.itoa n ++ [])
    simp
   ·intro t ht
    obtain rfl := List.mem_singleton.1 ht
    exact c6q hno.1.1 hno.1.2
   ·show (Lib.itoa n).length ≤ 31
    rw [e]; omega
  ·obtain rfl : l = [] := List.length_eq_zero_iff.1 (a4k hl rfl)
   unfold a5w at hno
   rw [if_neg (by decide), if_pos (by decide)] at hno
   have hn := b6w hno.2
   refine leaf rfl ?_ ?_ ?_
   ·show 32 :: (([108, 105, 102, 116, 115, 32, 40, 32] ++ s) ++ [32, 41]) = 32 :: ([108, 105, 102, 116, 115] ++ 32 :: 40 :: 32 :: (s ++ [32, 41]))
    simp
   ·intro t ht
    have ht : t ∈ [wN [108, 105, 102, 116, 115], wS 40, wN s, wS 41] := ht
    simp only [List.mem_cons, List.not_mem_nil, or_false] at ht
    rcases ht with rfl | rfl | rfl | rfl
    ·exact a4o (by decide)
    ·exact good40
    ·exact a4o hno.2
    ·exact good41
   ·show (([108, 105, 102, 116, 115, 32, 40, 32] ++ s) ++ [32, 41]).length ≤ 31
    simp only [List.length_append, List.length_cons, List.length_nil]; omega
  ·obtain rfl : l = [] := List.length_eq_zero_iff.1 (a4k hl rfl)
   refine leaf rfl rfl ?_ (by show 7 ≤ 31; decide)
   intro t ht
   obtain rfl := List.mem_singleton.1 ht
   exact a4o (by decide)
  ·obtain rfl : l = [] := List.length_eq_zero_iff.1 (a4k hl rfl)
   refine leaf rfl rfl ?_ (by show 5 ≤ 31; decide)
   intro t ht
   obtain rfl := List.mem_singleton.1 ht
   exact a4o (by decide)
  ·obtain rfl : l = [] := List.length_eq_zero_iff.1 (a4k hl rfl)
   unfold a5w at hno
   rw [if_neg (by decide), if_pos (by decide)] at hno
   have hn := b6w hno.2
   refine leaf rfl ?_ ?_ ?_
   ·show 32 :: (([119, 101, 105, 103, 104, 116, 32, 40, 32] ++ s) ++ [32, 41]) = 32 :: ([119, 101, 105, 103, 104, 116] ++ 32 :: 40 :: 32 :: (s ++ [32, 41]))
    simp
   ·intro t ht
    have ht : t ∈ [wN [119, 101, 105, 103, 104, 116], wS 40, wN s, wS 41] := ht
    simp only [List.mem_cons, List.not_mem_nil, or_false] at ht
    rcases ht with rfl | rfl | rfl | rfl
    ·exact a4o (by decide)
    ·exact good40
    ·exact a4o hno.2
    ·exact good41
   ·show (([119, 101, 105, 103, 104, 116, 32, 40, 32] ++ s) ++ [32, 41]).length ≤ 31
    simp only [List.length_append, List.length_cons, List.length_nil]; omega
  ·exact mm _ (by decide) rfl (.inl ⟨rfl, rfl⟩)
  ·exact mm _ (by decide) rfl (.inr ⟨rfl, rfl⟩)
  ·have hl3 : l.length = 3 := a4k hl rfl
   obtain ⟨a, b, c, rfl⟩ : ∃ a b c, l = [a, b, c] := by
    match l, hl3 with
    | [a, b, c], _ => exact ⟨a, b, c, rfl⟩
   have hcab : cnt ⟨11, n, s, [a, b, c]⟩ = cnt a + (cnt b + (cnt c + 0)) + 1 := rfl
   obtain ⟨_, ea, ga, la⟩ := ih a (by simp)
   obtain ⟨_, eb, gb, lb⟩ := ih b (by simp)
   obtain ⟨_, ec, gc, lc⟩ := ih c (by simp)
   have et : (ta ⟨11, n, s, [a, b, c]⟩).1 = (((([105, 102, 32] ++ (ta a).2) ++ [32, 116, 104, 101, 110, 32]) ++ (ta b).2) ++ [32, 101, 108, 115, 101, 32]) ++ (ta c).2 := rfl
   have ew : (wa ⟨11, n, s, [a, b, c]⟩).1 = wN [105, 102] :: ((wa a).2 ++ wN [116, 104, 101, 110] :: ((wa b).2 ++ wN [101, 108, 115, 101] :: (wa c).2)) := rfl
   refine d0r ?_ ?_ ?_ (fun _ => ?_)
   ·rw [et, ew]
    show _ = 32 :: ([105, 102] ++ sp ((wa a).2 ++ wN [116, 104, 101, 110] :: ((wa b).2 ++ wN [101, 108, 115, 101] :: (wa c).2)))
    rw [sp_app]
    show _ = 32 :: ([105, 102] ++ (sp (wa a).2 ++ 32 :: ([116, 104, 101, 110] ++ sp ((wa b).2 ++ wN [101, 108, 115, 101] :: (wa c).2))))
    rw [sp_app]
    show _ = 32 :: ([105, 102] ++ (sp (wa a).2 ++ 32 :: ([116, 104, 101, 110] ++ (sp (wa b).2 ++ 32 :: ([101, 108, 115, 101] ++ sp (wa c).2)))))
    rw [← ea, ← eb, ← ec]
    simp
   ·intro t ht
    rw [ew] at ht
    simp only [List.mem_cons, List.mem_append] at ht
    rcases ht with rfl | ht | rfl | ht | rfl | ht
    ·exact a4o (by decide)
    ·exact ga t ht
    ·exact a4o (by decide)
    ·exact gb t ht
    ·exact a4o (by decide)
    ·exact gc t ht
   all_goals rw [et]; simp only [List.length_append, List.length_cons, List.length_nil]; omega
  ·have hl1 : l.length = 1 := a4k hl rfl
   obtain ⟨a, rfl⟩ : ∃ a, l = [a] := by
    match l, hl1 with
    | [a], _ => exact ⟨a, rfl⟩
   have hcab : cnt ⟨14, n, s, [a]⟩ = cnt a + 0 + 1 := rfl
   obtain ⟨_, ea, ga, la⟩ := ih a (by simp)
   have et : (ta ⟨14, n, s, [a]⟩).1 = [110, 111, 116, 32] ++ (ta a).2 := rfl
   have ew : (wa ⟨14, n, s, [a]⟩).1 = wN [110, 111, 116] :: (wa a).2 := rfl
   refine d0r ?_ ?_ ?_ (fun _ => ?_)
   ·rw [et, ew]
    show _ = 32 :: ([110, 111, 116] ++ sp (wa a).2)
    rw [← ea]; simp
   ·intro t ht
    rw [ew] at ht
    rcases List.mem_cons.1 ht with rfl | ht
    ·exact a4o (by decide)
    ·exact ga t ht
   all_goals rw [et]; simp only [List.length_append, List.length_cons, List.length_nil]; omega
  ·exact bin ho
end Go.Proofs.YtknpjecpcmajiaaGreatDoor.Pr

namespace Go.Proofs.YtknpjecpcmajiaaGreatDoor.Pr
open Go Rt M Ta Tp
def Bg (l : List Token) (a : Nat) (ws : List Token) : Prop := ∃ post, (l.drop a).map c3l = ws ++ post
theorem Bg.cut {l : List Token} {a : Nat} {u v : List Token} (h : Bg l a (u ++ v)) : Bg l a u ∧ Bg l (a + u.length) v := by
 obtain ⟨post, h⟩ := h
 refine ⟨⟨v ++ post, by rw [h, List.append_assoc]⟩, ⟨post, ?_⟩⟩
 have := congrArg (List.drop u.length) h
 rw [← List.map_drop, List.drop_drop, List.append_assoc] at this
 rw [this]; simp
theorem Bg.len {l : List Token} {a : Nat} {w : Token} {ws : List Token} (h : Bg l a (w :: ws)) : a + (w :: ws).length ≤ l.length := by
 obtain ⟨post, h⟩ := h
 have := congrArg List.length h
 simp only [List.length_map, List.length_drop, List.length_append, List.length_cons] at this ⊢
 omega
theorem Bg.next {l : List Token} {a : Nat} {w : Token} {ws : List Token} (h : Bg l a (w :: ws)) : ∃ t : Token, (∀ n, a2v n (Rd l a 0) = some (Rd l a 0, t)) ∧ b9y l a 0 = t ∧ t.Kind = w.Kind ∧ t.Text = w.Text ∧ t.N = w.N ∧ a < l.length ∧ Bg l (a + 1) ws := by
 have hlen := h.len
 have h2 := (Bg.cut (u := [w]) (v := ws) h).2
 obtain ⟨post, h⟩ := h
 have ha : a < l.length := by simp only [List.length_cons] at hlen; omega
 rw [List.drop_eq_getElem_cons ha] at h
 have e : c3l l[a] = w := (List.cons.inj (show c3l l[a] :: (l.drop (a + 1)).map c3l = w :: (ws ++ post) from h)).1
 have e2 : b9y l a 0 = l[a] := by
  unfold b9y
  rw [if_pos rfl, List.getElem?_eq_getElem ha]; rfl
 refine ⟨l[a], fun n => by rw [d2t n (by omega), e2], e2, ?_, ?_, ?_, ha, h2⟩
 ·exact congrArg (·.Kind) e
 ·exact congrArg (·.Text) e
 ·exact congrArg (·.N) e
theorem Bg.take {l : List Token} {a : Nat} {w : Token} {ws : List Token} (h : Bg l a (w :: ws)) (hl : l.length ≤ 1000000) (hk : w.Kind = 0 ∨ w.Kind = 3) (n : Nat) : a2a n (Rd l a 0) w.Text = some (Rd l (a + 1) 0, true) := by
 obtain ⟨t, _, e, e1, e2, _, h3, _⟩ := h.next
 have : isT l a 0 w.Text = true := by
  unfold isT
  rw [e, e1, e2]
  rcases hk with hk | hk <;> rw [hk] <;> simp
 rw [d2v n _ hl (by omega), this]; rfl
theorem Bg.leave {l : List Token} {a : Nat} {w : Token} {ws : List Token} (h : Bg l a (w :: ws)) (hl : l.length ≤ 1000000) {s : Rt.Bs} (hk : w.Kind = 1 ∨ w.Text ≠ s) (n : Nat) : a2a n (Rd l a 0) s = some (Rd l a 0, false) := by
 obtain ⟨t, _, e, e1, e2, _, h3, _⟩ := h.next
 have : isT l a 0 s = false := by
  unfold isT
  rw [e, e1, e2]
  rcases hk with hk | hk
  ·rw [hk]; simp
  ·rw [beq_eq_false_iff_ne.2 hk]; rfl
 rw [d2v n _ hl (by omega), this]; rfl
theorem c9c {l : List Token} (hl : l.length ≤ 1000000) (all : List Rt.Bs) (hw : all.length ≤ 1000) : ∀ (us : List Token) (i a : Nat), all.drop i = us.map (·.Text) → (∀ w, w ∈ us → w.Kind = 0 ∨ w.Kind = 3) → Bg l a us →
  ∀ n m, us.length < m → a2w n all (fun f4 f5 f6 => some (⟨f4, f5, f6⟩ : reader)) m (i : Int) l (a : Int) 0 = some (Rd l (a + us.length) 0)
 | [], i, a, hd, _, _, n, m, hm => by
  obtain ⟨m, rfl⟩ := left hm
  rw [a6s, b0x hd]; rfl
 | u :: us, i, a, hd, hk, hb, n, m, hm => by
  obtain ⟨h1, h2, h3⟩ := Rt.drop_cons hd
  obtain ⟨m, rfl, hm2⟩ := pred (by simpa using hm)
  rw [a6s, a5c hd, cond_true, h1, Option.bind_some, hb.take hl (hk u (by simp)) n, Option.bind_some]
  dsimp only
  rw [Bool.not_true, cond_false, inc64 (by omega), c9c hl all hw us (i + 1) (a + 1) h2 (fun w h => hk w (by simp [h])) (Bg.cut (u := [u]) (v := us) hb).2 n m hm2, List.length_cons, show a + 1 + us.length = a + (us.length + 1) by omega]
theorem c1k {l : List Token} {a : Nat} (us : List Token) (hb : Bg l a us) (hl : l.length ≤ 1000000) (hk : ∀ w, w ∈ us → w.Kind = 0 ∨ w.Kind = 3) (hu : us.length ≤ 1000) : Ev (fun n => a1i n (Rd l a 0) (us.map (·.Text))) (Rd l (a + us.length) 0) :=
 ⟨us.length + 1, fun n hn => c9c hl _ (by simpa using hu) us 0 a rfl hk hb n n (by omega)⟩
theorem d5l {l : List Token} {a : Nat} {w : Token} {ws : List Token} (hb : Bg l a (w :: ws)) (hl : l.length ≤ 1000000) : ∃ t : Token, (∀ n, a4a n (Rd l a 0) w.Kind = some (Rd l (a + 1) 0, t)) ∧ t.Text = w.Text ∧ t.N = w.N := by
 obtain ⟨t, e0, e, e1, e2, e3, h3, _⟩ := hb.next
 refine ⟨t, fun n => ?_, e2, e3⟩
 unfold a4a
 rw [e0, Option.bind_some]
 dsimp only
 rw [e1, show (w.Kind != w.Kind) = false by simp, cond_false, inc64 (by omega)]
def b0j (x : M.Expr) : Prop := ∀ (l : List Token) (a b : Nat), l.length ≤ 1000000 → Bg l a (wa x).2 → b = a + (wa x).2.length → Ev (fun n => tariff_reader_atom n (Rd l a 0)) (Rd l b 0, x)
def b4f (x : M.Expr) : Prop := ∀ (l : List Token) (a b : Nat) (z : Token), l.length ≤ 1000000 → Bg l a ((wa x).1 ++ [z]) → mget ops z.Text = none → b = a + (wa x).1.length → Ev (fun n => tariff_reader_expr n (Rd l a 0)) (Rd l b 0, x)
def Fst (x : M.Expr) : Prop := ∃ w ws, (wa x).2 = w :: ws ∧ (w.Kind = 1 ∨ (w.Text ≠ [110, 111, 116] ∧ w.Text ≠ [105, 102]))
theorem d1o {o n : Int} {s : Rt.Bs} {k : List M.Expr} (hb : ((!k.isEmpty && o != 9) && o != 10) = true) (h : b4f ⟨o, n, s, k⟩) : b0j ⟨o, n, s, k⟩ := by
 intro l a b hl hg hbb
 have e2 : (wa ⟨o, n, s, k⟩).2 = wS 40 :: ((wa ⟨o, n, s, k⟩).1 ++ [wS 41]) := by
  show wdp o k (wa ⟨o, n, s, k⟩).1 = _
  unfold wdp; rw [hb]; rfl
 rw [e2] at hg hbb
 obtain ⟨⟨k1, t1, n1, p1⟩, f1, _, g1, g2, g3, g4, g5⟩ := hg.next
 obtain rfl : k1 = 3 := g1
 obtain rfl : t1 = [40] := g2
 refine Ev.suc (fun m => a3v m _) ?_
 refine Ev.bind (Ev.all f1) (Ev.else rfl (Ev.step (a := false) rfl (Ev.else rfl (Ev.then rfl ?_))))
 rw [show iadd .i64 (a : Int) 1 = ((a + 1 : Nat) : Int) from inc64 (by omega)]
 refine Ev.bind (h l (a + 1) _ (wS 41) hl g5 rfl rfl) ?_
 refine Ev.bind (c1k [wS 41] (Bg.cut g5).2 hl (by intro w hw; obtain rfl := List.mem_singleton.1 hw; exact .inr rfl) (by decide)) ?_
 refine (Ev.pure _).eq ?_
 dsimp only
 rw [hbb]
 congr 2
 simp only [List.length_cons, List.length_append, List.length_nil]; omega
theorem c9l {x : M.Expr} (h1 : (wa x).2 = (wa x).1) (hf : Fst x) (h : b0j x) : b4f x := by
 intro l a b z hl hg hz hb
 obtain ⟨w, ws, e, hw⟩ := hf
 have hg1 := hg.cut.1
 rw [← h1, e] at hg1
 refine Ev.suc (fun m => a4x m _) ?_
 refine Ev.bind (Ev.all (hg1.leave hl (hw.imp id (·.1)))) (Ev.else rfl ?_)
 refine Ev.bind (Ev.all (hg1.leave hl (hw.imp id (·.2)))) (Ev.else rfl ?_)
 refine Ev.bind (h l a _ hl (by rw [h1]; exact hg.cut.1) rfl) ?_
 have hg2 := hg.cut.2
 rw [← h1] at hg2
 obtain ⟨t, f1, _, _, g2, _⟩ := hg2.next
 refine Ev.bind (Ev.all f1) (Ev.bind (Ev.all fun m => b5w m) ?_)
 dsimp only
 rw [g2, hz]
 refine Ev.step (a := (true, l, ((a + (wa x).2.length : Nat) : Int), 0)) rfl (Ev.then rfl ?_)
 refine (Ev.pure _).eq ?_
 rw [hb, h1]
theorem d1v {o : Int} {x y : M.Expr} (ho : o = 5 ∨ o = 6 ∨ o = 7 ∨ o = 8 ∨ o = 12 ∨ o = 13 ∨ o = 15 ∨ o = 16) (hf : Fst x) (hx : b0j x) (hy : b0j y) : b4f ⟨o, 0, [], [x, y]⟩ := by
 intro l a b z hl hg hz hb
 have ew : (wa ⟨o, 0, [], [x, y]⟩).1 = (wa x).2 ++ opw o :: (wa y).2 := by
  show (if o = 9 ∨ o = 10 then _ else (wa x).2 ++ opw o :: (wa y).2) = _
  rw [if_neg (by omega)]
 rw [ew] at hg hb
 have hg := hg.cut.1
 obtain ⟨w, ws, e, hw⟩ := hf
 have hg1 := hg.cut.1
 rw [e] at hg1
 refine Ev.suc (fun m => a4x m _) ?_
 refine Ev.bind (Ev.all (hg1.leave hl (hw.imp id (·.1)))) (Ev.else rfl ?_)
 refine Ev.bind (Ev.all (hg1.leave hl (hw.imp id (·.2)))) (Ev.else rfl ?_)
 refine Ev.bind (hx l a _ hl hg.cut.1 rfl) ?_
 have hg2 := hg.cut.2
 obtain ⟨t, f1, _, g1, g2, _, _, g6⟩ := hg2.next
 refine Ev.bind (Ev.all f1) (Ev.bind (Ev.all fun m => b5w m) ?_)
 dsimp only
 have hm : mget ops (opw o).Text = some o := by rcases ho with rfl | rfl | rfl | rfl | rfl | rfl | rfl | rfl <;> rfl
 have hk : (opw o).Kind = 0 ∨ (opw o).Kind = 3 := by
  show (if o = 15 ∨ o = 16 then (0 : Int) else 3) = 0 ∨ (if o = 15 ∨ o = 16 then (0 : Int) else 3) = 3
  split
  ·exact .inl rfl
  ·exact .inr rfl
 rw [g2, hm]
 refine Ev.bind (a := (false, l, ((a + (wa x).2.length + 1 : Nat) : Int), 0)) (Ev.else rfl (Ev.bind (Ev.all (hg2.take hl hk)) (Ev.pure _))) (Ev.else rfl ?_)
 refine Ev.bind (hy l (a + (wa x).2.length + 1) _ hl g6 rfl) ?_
 refine (Ev.pure _).eq ?_
 rw [hb]
 dsimp only [Option.getD_some]
 congr 2
 simp only [List.length_cons, List.length_append]; omega
theorem d2c {x : M.Expr} (hx : b0j x) : b4f ⟨14, 0, [], [x]⟩ := by
 intro l a b z hl hg hz hb
 have ew : (wa ⟨14, 0, [], [x]⟩).1 = wN [110, 111, 116] :: (wa x).2 := rfl
 rw [ew] at hg hb
 have hg := hg.cut.1
 refine Ev.suc (fun m => a4x m _) ?_
 refine Ev.bind (Ev.all (hg.take hl (.inl rfl))) (Ev.then rfl ?_)
 refine Ev.bind (hx l (a + 1) _ hl (Bg.cut (u := [wN [110, 111, 116]]) hg).2 rfl) ?_
 obtain rfl : b = a + 1 + (wa x).2.length := by rw [hb]; simp only [List.length_cons]; omega
 exact Ev.pure _
theorem d3t {x y v : M.Expr} (hx : b0j x) (hy : b0j y) (hv : b0j v) : b4f ⟨11, 0, [], [x, y, v]⟩ := by
 intro l a b z hl hg hz hb
 have ew : (wa ⟨11, 0, [], [x, y, v]⟩).1 = wN [105, 102] :: ((wa x).2 ++ wN [116, 104, 101, 110] :: ((wa y).2 ++ wN [101, 108, 115, 101] :: (wa v).2)) := rfl
 rw [ew] at hg hb
 have hg := hg.cut.1
 refine Ev.suc (fun m => a4x m _) ?_
 refine Ev.bind (Ev.all (hg.leave hl (.inr (by decide)))) (Ev.else rfl ?_)
 refine Ev.bind (Ev.all (hg.take hl (.inl rfl))) (Ev.then rfl ?_)
 have h1 := (Bg.cut (u := [wN [105, 102]]) hg).2
 refine Ev.bind (hx l (a + 1) _ hl h1.cut.1 rfl) ?_
 have h2 := h1.cut.2
 refine Ev.bind (c1k [wN [116, 104, 101, 110]] (Bg.cut (u := [wN [116, 104, 101, 110]]) h2).1 hl (by intro w hw; obtain rfl := List.mem_singleton.1 hw; exact .inl rfl) (by decide)) ?_
 have h3 := (Bg.cut (u := [wN [116, 104, 101, 110]]) h2).2
 refine Ev.bind (hy l _ _ hl h3.cut.1 rfl) ?_
 have h4 := h3.cut.2
 refine Ev.bind (c1k [wN [101, 108, 115, 101]] (Bg.cut (u := [wN [101, 108, 115, 101]]) h4).1 hl (by intro w hw; obtain rfl := List.mem_singleton.1 hw; exact .inl rfl) (by decide)) ?_
 have h5 := (Bg.cut (u := [wN [101, 108, 115, 101]]) h4).2
 refine Ev.bind (hv l _ b hl h5 ?_) (Ev.pure _)
 rw [hb]
 simp only [List.length_cons, List.length_append, List.length_nil]; omega
end Go.Proofs.YtknpjecpcmajiaaGreatDoor.Pr

namespace Go.Proofs.YtknpjecpcmajiaaGreatDoor.Pr
open Go Rt M Ta Tp
theorem b1c {l : List Token} {a : Nat} {c : UInt8} {ws : List Token} (hb : Bg l a (wS c :: ws)) (hl : l.length ≤ 1000000) : Ev (fun n => a1i n (Rd l a 0) [[c]]) (Rd l (a + 1) 0) ∧ Bg l (a + 1) ws :=
 ⟨c1k [wS c] (Bg.cut (u := [wS c]) hb).1 hl (by intro w hw; obtain rfl := List.mem_singleton.1 hw; exact .inr rfl) (Nat.le_add_left 1 999), (Bg.cut (u := [wS c]) hb).2⟩
theorem d1y (n : Int) : b0j ⟨0, n, [], []⟩ := by
 intro l a b hl hg hb
 have hg : Bg l a [wK n] := hg
 obtain ⟨⟨k1, t1, n1, p1⟩, f1, _, g1, g2, g3, g4, g5⟩ := hg.next
 obtain rfl : k1 = 1 := g1
 obtain rfl : n1 = n := g3
 obtain rfl : b = a + 1 := hb
 refine Ev.suc (fun m => a3v m _) (Ev.bind (Ev.all f1) (Ev.then rfl ?_))
 rw [show iadd .i64 (a : Int) 1 = ((a + 1 : Nat) : Int) from inc64 (by omega)]
 exact Ev.pure _
theorem atom_persons : b0j ⟨2, 0, [], []⟩ := by
 intro l a b hl hg hb
 have hg : Bg l a [wN [112, 101, 114, 115, 111, 110, 115]] := hg
 obtain ⟨⟨k1, t1, n1, p1⟩, f1, _, g1, g2, g3, g4, g5⟩ := hg.next
 obtain rfl : k1 = 0 := g1
 obtain rfl : t1 = _ := g2
 obtain rfl : b = a + 1 := hb
 refine Ev.suc (fun m => a3v m _) (Ev.bind (Ev.all f1) (Ev.else rfl (Ev.step (a := false) rfl (Ev.else rfl (Ev.else rfl (Ev.then rfl ?_))))))
 rw [show iadd .i64 (a : Int) 1 = ((a + 1 : Nat) : Int) from inc64 (by omega)]
 exact Ev.pure _
theorem atom_flats : b0j ⟨3, 0, [], []⟩ := by
 intro l a b hl hg hb
 have hg : Bg l a [wN [102, 108, 97, 116, 115]] := hg
 obtain ⟨⟨k1, t1, n1, p1⟩, f1, _, g1, g2, g3, g4, g5⟩ := hg.next
 obtain rfl : k1 = 0 := g1
 obtain rfl : t1 = _ := g2
 obtain rfl : b = a + 1 := hb
 refine Ev.suc (fun m => a3v m _) (Ev.bind (Ev.all f1) (Ev.else rfl (Ev.step (a := false) rfl (Ev.else rfl (Ev.else rfl (Ev.else rfl (Ev.then rfl ?_)))))))
 rw [show iadd .i64 (a : Int) 1 = ((a + 1 : Nat) : Int) from inc64 (by omega)]
 exact Ev.pure _
theorem c3m {o : Int} (ho : o = 1 ∨ o = 4) (s : Rt.Bs) : b0j ⟨o, 0, s, []⟩ := by
 intro l a b hl hg hb
 have key : ∀ k : Rt.Bs, (o = 1 ∧ k = [108, 105, 102, 116, 115] ∨ o = 4 ∧ k = [119, 101, 105, 103, 104, 116]) → Bg l a [wN k, wS 40, wN s, wS 41] → Ev (fun n => tariff_reader_atom n (Rd l a 0)) (Rd l (a + 4) 0, ⟨o, 0, s, []⟩) := by
  intro k hk hg
  obtain ⟨⟨k1, t1, n1, p1⟩, f1, _, g1, g2, g3, g4, g5⟩ := hg.next
  obtain rfl : k1 = 0 := g1
  obtain rfl : t1 = k := g2
  obtain ⟨e1, h1⟩ := b1c g5 hl
  obtain ⟨t, e2, e3, _⟩ := d5l h1 hl
  have h2 := (Bg.cut (u := [wN s]) h1).2
  obtain ⟨e4, _⟩ := b1c h2 hl
  obtain ⟨k2, t2, n2, p2⟩ := t
  obtain rfl : t2 = s := e3
  refine Ev.suc (fun m => a3v m _) (Ev.bind (Ev.all f1) ?_)
  rw [show iadd .i64 (a : Int) 1 = ((a + 1 : Nat) : Int) from inc64 (by omega)]
  rcases hk with ⟨rfl, rfl⟩ | ⟨rfl, rfl⟩
  ·refine Ev.else rfl (Ev.step (a := false) rfl (Ev.else rfl (Ev.else rfl (Ev.else rfl (Ev.else rfl (Ev.step (a := true) rfl (Ev.then rfl (Ev.step (a := 1) rfl ?_))))))))
   exact Ev.bind e1 (Ev.bind (Ev.all e2) (Ev.bind e4 (Ev.pure _)))
  ·refine Ev.else rfl (Ev.step (a := false) rfl (Ev.else rfl (Ev.else rfl (Ev.else rfl (Ev.else rfl (Ev.step (a := true) rfl (Ev.then rfl (Ev.step (a := 4) rfl ?_))))))))
   exact Ev.bind e1 (Ev.bind (Ev.all e2) (Ev.bind e4 (Ev.pure _)))
 rcases ho with rfl | rfl
 ·obtain rfl : b = a + 4 := hb
  exact key _ (.inl ⟨rfl, rfl⟩) hg
 ·obtain rfl : b = a + 4 := hb
  exact key _ (.inr ⟨rfl, rfl⟩) hg
theorem d1k {o : Int} (ho : o = 9 ∨ o = 10) {x y : M.Expr} (hx : b4f x) (hy : b4f y) : b0j ⟨o, 0, [], [x, y]⟩ := by
  intro l a b hl hg hb
  have key : ∀ k : Rt.Bs, (o = 9 ∧ k = [109, 105, 110] ∨ o = 10 ∧ k = [109, 97, 120]) → Bg l a (wN k :: wS 40 :: ((wa x).1 ++ wS 44 :: ((wa y).1 ++ [wS 41]))) → Ev (fun n => tariff_reader_atom n (Rd l a 0)) (Rd l (a + 1 + 1 + (wa x).1.length + 1 + (wa y).1.length + 1) 0, ⟨o, 0, [], [x, y]⟩) := by
    intro k hk hg
    obtain ⟨⟨k1, t1, n1, p1⟩, f1, _, g1, g2, g3, g4, g5⟩ := hg.next
    obtain rfl : k1 = 0 := g1
    obtain rfl : t1 = k := g2
    obtain ⟨e1, h1⟩ := b1c g5 hl
    have h1' := h1
    rw [show (wa x).1 ++ wS 44 :: ((wa y).1 ++ [wS 41]) = ((wa x).1 ++ [wS 44]) ++ ((wa y).1 ++ [wS 41]) by simp] at h1'
    have ex := hx l (a + 1 + 1) _ (wS 44) hl h1'.cut.1 rfl rfl
    obtain ⟨e2, h2⟩ := b1c h1.cut.2 hl
    have ey := hy l _ _ (wS 41) hl h2 rfl rfl
    obtain ⟨e3, _⟩ := b1c h2.cut.2 hl
    refine Ev.suc (fun m => a3v m _) (Ev.bind (Ev.all f1) ?_)
    rw [show iadd .i64 (a : Int) 1 = ((a + 1 : Nat) : Int) from inc64 (by omega)]
    have tail : ∀ f2 : Int, Ev (fun n => (a1i n (Rd l (a + 1 : Nat) 0) [[40]]).bind fun v11 =>
         ((tariff_reader_expr n v11).bind fun v15 =>
         (app 56 ([] : List M.Expr) [v15.2]).bind fun l4 =>
         some (l4, v15.1.l, v15.1.at_, v15.1.e)).bind fun (l1, f3, f4, f5) =>
         (a1i n (⟨f3, f4, f5⟩ : reader) [[44]]).bind fun v12 =>
         ((tariff_reader_expr n v12).bind fun v14 =>
         (app 56 l1 [v14.2]).bind fun l3 =>
         some (l3, v14.1.l, v14.1.at_, v14.1.e)).bind fun (l2, f6, f7, f8) =>
         (a1i n (⟨f6, f7, f8⟩ : reader) [[41]]).bind fun v13 =>
         some (v13, (⟨f2, 0, [], l2⟩ : M.Expr))) (Rd l (a + 1 + 1 + (wa x).1.length + 1 + (wa y).1.length + 1) 0, ⟨f2, 0, [], [x, y]⟩) := by
      intro f2
      refine Ev.bind e1 (Ev.bind (a := ([x], l, ((a + 1 + 1 + (wa x).1.length : Nat) : Int), 0)) (Ev.bind ex (Ev.step (c4g (by simp)) (Ev.pure _))) ?_)
      refine Ev.bind e2 (Ev.bind (a := ([x, y], l, ((a + 1 + 1 + (wa x).1.length + 1 + (wa y).1.length : Nat) : Int), 0)) (Ev.bind ey (Ev.step (c4g (by simp)) (Ev.pure _))) ?_)
      exact Ev.bind e3 (Ev.pure _)
    rcases hk with ⟨rfl, rfl⟩ | ⟨rfl, rfl⟩
    · exact Ev.else rfl (Ev.step (a := false) rfl (Ev.else rfl (Ev.else rfl (Ev.else rfl (Ev.else rfl (Ev.step (a := false) rfl (Ev.else rfl (Ev.step (a := true) rfl (Ev.then rfl (Ev.step (a := 9) rfl (tail 9)))))))))))
    · exact Ev.else rfl (Ev.step (a := false) rfl (Ev.else rfl (Ev.else rfl (Ev.else rfl (Ev.else rfl (Ev.step (a := false) rfl (Ev.else rfl (Ev.step (a := true) rfl (Ev.then rfl (Ev.step (a := 10) rfl (tail 10)))))))))))
  rcases ho with rfl | rfl
  · have e : (wa ⟨9, 0, [], [x, y]⟩).2 = wN [109, 105, 110] :: wS 40 :: ((wa x).1 ++ wS 44 :: ((wa y).1 ++ [wS 41])) := rfl
    rw [e] at hg hb
    obtain rfl : b = a + 1 + 1 + (wa x).1.length + 1 + (wa y).1.length + 1 := by rw [hb]; simp only [List.length_cons, List.length_append, List.length_nil]; omega
    exact key _ (.inl ⟨rfl, rfl⟩) hg
  · have e : (wa ⟨10, 0, [], [x, y]⟩).2 = wN [109, 97, 120] :: wS 40 :: ((wa x).1 ++ wS 44 :: ((wa y).1 ++ [wS 41])) := rfl
    rw [e] at hg hb
    obtain rfl : b = a + 1 + 1 + (wa x).1.length + 1 + (wa y).1.length + 1 := by rw [hb]; simp only [List.length_cons, List.length_append, List.length_nil]; omega
    exact key _ (.inr ⟨rfl, rfl⟩) hg
theorem d5w {o n : Int} {s : Rt.Bs} {k : List M.Expr} (hb : ((!k.isEmpty && o != 9) && o != 10) = true) : Fst ⟨o, n, s, k⟩ := by
 refine ⟨wS 40, (wa ⟨o, n, s, k⟩).1 ++ [wS 41], ?_, .inr ⟨by decide, by decide⟩⟩
 show wdp o k (wa ⟨o, n, s, k⟩).1 = _
 unfold wdp; rw [hb]; rfl
theorem d3z {x : M.Expr} (hs : Shx x) : b0j x ∧ b4f x ∧ Fst x := by
 induction hs with
 | @mk o n s l h0 h16 hl hno _ ih =>
  have plain : (o ≠ 0 ∧ o ≠ 1 ∧ o ≠ 4) → n = 0 ∧ s = [] := by
   intro h
   unfold a5w at hno
   rw [if_neg h.1, if_neg (by omega)] at hno
   exact hno
  have leaf : (wa ⟨o, n, s, l⟩).2 = (wa ⟨o, n, s, l⟩).1 → Fst ⟨o, n, s, l⟩ → b0j ⟨o, n, s, l⟩ → b0j ⟨o, n, s, l⟩ ∧ b4f ⟨o, n, s, l⟩ ∧ Fst ⟨o, n, s, l⟩ := fun h1 h2 h3 => ⟨h3, c9l h1 h2 h3, h2⟩
  have par : ((!l.isEmpty && o != 9) && o != 10) = true → b4f ⟨o, n, s, l⟩ → b0j ⟨o, n, s, l⟩ ∧ b4f ⟨o, n, s, l⟩ ∧ Fst ⟨o, n, s, l⟩ := fun h1 h2 => ⟨d1o h1 h2, h2, d5w h1⟩
  have hcs : o = 0 ∨ (o = 1 ∨ o = 4) ∨ o = 2 ∨ o = 3 ∨ (o = 9 ∨ o = 10) ∨ o = 11 ∨ o = 14 ∨ (o = 5 ∨ o = 6 ∨ o = 7 ∨ o = 8 ∨ o = 12 ∨ o = 13 ∨ o = 15 ∨ o = 16) := by omega
  rcases hcs with rfl | ho | rfl | rfl | ho | rfl | rfl | ho
  ·obtain rfl : l = [] := List.length_eq_zero_iff.1 (a4k hl rfl)
   unfold a5w at hno
   rw [if_pos rfl] at hno
   obtain rfl := hno.2
   exact leaf rfl ⟨_, _, rfl, .inl rfl⟩ (d1y n)
  ·obtain rfl : l = [] := List.length_eq_zero_iff.1 (a4k hl (by rcases ho with rfl | rfl <;> rfl))
   unfold a5w at hno
   rw [if_neg (by omega), if_pos ho] at hno
   obtain rfl := hno.1
   refine leaf rfl ?_ (c3m ho s)
   rcases ho with rfl | rfl
   ·exact ⟨_, _, rfl, .inr ⟨by decide, by decide⟩⟩
   ·exact ⟨_, _, rfl, .inr ⟨by decide, by decide⟩⟩
  ·obtain rfl : l = [] := List.length_eq_zero_iff.1 (a4k hl rfl)
   obtain ⟨rfl, rfl⟩ := plain (by decide)
   exact leaf rfl ⟨_, _, rfl, .inr ⟨by decide, by decide⟩⟩ atom_persons
  ·obtain rfl : l = [] := List.length_eq_zero_iff.1 (a4k hl rfl)
   obtain ⟨rfl, rfl⟩ := plain (by decide)
   exact leaf rfl ⟨_, _, rfl, .inr ⟨by decide, by decide⟩⟩ atom_flats
  ·obtain ⟨rfl, rfl⟩ := plain (by omega)
   have hl2 : l.length = 2 := a4k hl (by rcases ho with rfl | rfl <;> rfl)
   obtain ⟨a, b, rfl⟩ : ∃ a b, l = [a, b] := by
    match l, hl2 with
    | [a, b], _ => exact ⟨a, b, rfl⟩
   have ha := ih a (by simp)
   have hb := ih b (by simp)
   refine leaf ?_ ?_ (d1k ho ha.2.1 hb.2.1)
   ·rcases ho with rfl | rfl <;> rfl
   ·rcases ho with rfl | rfl
    ·exact ⟨_, _, rfl, .inr ⟨by decide, by decide⟩⟩
    ·exact ⟨_, _, rfl, .inr ⟨by decide, by decide⟩⟩
  ·obtain ⟨rfl, rfl⟩ := plain (by decide)
   have hl3 : l.length = 3 := a4k hl rfl
   obtain ⟨a, b, c, rfl⟩ : ∃ a b c, l = [a, b, c] := by
    match l, hl3 with
    | [a, b, c], _ => exact ⟨a, b, c, rfl⟩
   exact par rfl (d3t (ih a (by simp)).1 (ih b (by simp)).1 (ih c (by simp)).1)
  ·obtain ⟨rfl, rfl⟩ := plain (by decide)
   have hl1 : l.length = 1 := a4k hl rfl
   obtain ⟨a, rfl⟩ : ∃ a, l = [a] := by
    match l, hl1 with
    | [a], _ => exact ⟨a, rfl⟩
   exact par rfl (d2c (ih a (by simp)).1)
  ·obtain ⟨rfl, rfl⟩ := plain (by omega)
   have hl2 : l.length = 2 := a4k hl (by unfold b8a; rw [if_neg (by omega), if_neg (by omega), if_neg (by omega)]; rfl)
   obtain ⟨a, b, rfl⟩ : ∃ a b, l = [a, b] := by
    match l, hl2 with
    | [a, b], _ => exact ⟨a, b, rfl⟩
   have hb : ((!([a, b] : List M.Expr).isEmpty && o != 9) && o != 10) = true := by
    rcases ho with rfl | rfl | rfl | rfl | rfl | rfl | rfl | rfl <;> rfl
   exact par hb (d1v ho (ih a (by simp)).2.2 (ih a (by simp)).1 (ih b (by simp)).1)
end Go.Proofs.YtknpjecpcmajiaaGreatDoor.Pr

namespace Go.Proofs.YtknpjecpcmajiaaGreatDoor.Pr
open Go Rt M Ta Tp
def capw (c : Int) : List Token := if c ≠ -1 then [wN [99, 97, 112], wS 61, wK c, wS 59] else []
def pwx (t : Tariff) (w : List Token) : List Token := wN [116, 97, 114, 105, 102, 102] :: wN t.Name :: wS 123 :: wN [102, 101, 101] :: wS 61 :: (w ++ wS 59 :: (capw t.Cap ++ [wS 125]))
def pw (t : Tariff) : List Token := pwx t (wa t.Fee).1
theorem good59 : Good (wS 59) := a6g (by decide)
theorem good61 : Good (wS 61) := a6g (by decide)
theorem good123 : Good (wS 123) := a6g (by decide)
theorem good125 : Good (wS 125) := a6g (by decide)
theorem c9e {c : Int} (h : -1 ≤ c) (h2 : c ≤ 1099511627776) : ∀ t, t ∈ capw c → Good t := by
 intro t ht
 unfold capw at ht
 by_cases hc : c = -1
 ·rw [if_neg (fun h => h hc)] at ht; cases ht
 ·rw [if_pos hc] at ht
  simp only [List.mem_cons, List.not_mem_nil, or_false] at ht
  rcases ht with rfl | rfl | rfl | rfl
  ·exact a4o (by decide)
  ·exact good61
  ·exact c6q (by omega) h2
  ·exact good59
theorem d4l {t : Tariff} (hw : Wrt t) {w : List Token} (hg : ∀ u, u ∈ w → Good u) : ∀ u, u ∈ pwx t w → Good u := by
 intro u hu
 unfold pwx at hu
 simp only [List.mem_cons, List.mem_append, List.not_mem_nil, or_false] at hu
 rcases hu with rfl | rfl | rfl | rfl | rfl | hu | rfl | hu | rfl
 ·exact a4o (by decide)
 ·exact a4o hw.1
 ·exact good123
 ·exact a4o (by decide)
 ·exact good61
 ·exact hg u hu
 ·exact good59
 ·exact c9e hw.2.2.1 hw.2.2.2 u hu
 ·exact good125
theorem c4h {t : Tariff} (hw : Wrt t) : 32 :: ptx t = sp (pw t) ∧ (ptx t).length ≤ 4000 := by
 obtain ⟨⟨h1, _, h3⟩, _⟩ := c6a hw.2.1.2
 have hn := b6w hw.1
 have hc := hw.2.1.1.2
 constructor
 ·have e : sp (pw t) = 32 :: ([116, 97, 114, 105, 102, 102] ++ 32 :: (t.Name ++ 32 :: 123 :: 32 :: ([102, 101, 101] ++ 32 :: 61 :: sp ((wa t.Fee).1 ++ wS 59 :: (capw t.Cap ++ [wS 125]))))) := rfl
  have e2 : sp (wS 59 :: (capw t.Cap ++ [wS 125])) = 32 :: 59 :: sp (capw t.Cap ++ [wS 125]) := rfl
  rw [e, sp_app, e2, sp_app, ← h1]
  have e3 : sp (capw t.Cap) = if t.Cap ≠ -1 then ([32, 99, 97, 112, 32, 61, 32] ++ Lib.itoa t.Cap) ++ [32, 59] else [] := by
   unfold capw
   split
   ·show 32 :: ([99, 97, 112] ++ 32 :: 61 :: 32 :: (Lib.itoa t.Cap ++ [32, 59])) = _
    simp
   ·rfl
  rw [e3]
  unfold ptx
  show _ = 32 :: ([116, 97, 114, 105, 102, 102] ++ 32 :: (t.Name ++ 32 :: 123 :: 32 :: ([102, 101, 101] ++ 32 :: 61 :: (32 :: (ta t.Fee).1 ++ 32 :: 59 :: (_ ++ [32, 125])))))
  simp
 ·have h7 : (if t.Cap ≠ -1 then ([32, 99, 97, 112, 32, 61, 32] ++ Lib.itoa t.Cap) ++ [32, 59] else []).length ≤ 30 := by
   split
   ·have := Lib.itoa_length_le t.Cap (by have := hw.2.2.1; omega) (by have := hw.2.2.2; omega)
    simp only [List.length_append, List.length_cons, List.length_nil]; omega
   ·simp
  unfold ptx
  simp only [List.length_append, List.length_cons, List.length_nil]
  omega
theorem d2k {t : Tariff} (hw : Wrt t) : ∃ l, Lx.scan (ptx t) = (l, 0, 0) ∧ l.map c3l = pw t := by
 obtain ⟨h1, h2⟩ := c4h hw
 have hg := d4l hw (c6a hw.2.1.2).1.2.1
 have h3 : Laid (ptx t) (pw t) := by
  have e : sp (pw t) = 32 :: ([116, 97, 114, 105, 102, 102] ++ sp (pw t).tail) := rfl
  rw [e] at h1
  rw [(List.cons.inj h1).2]
  exact Laid.cons (g := []) (t := wN [116, 97, 114, 105, 102, 102]) gap_nil (hg _ (by unfold pwx; simp)) (d0a _) (sp_laid fun u hu => hg u (List.mem_of_mem_tail hu))
 exact c7c h3 h2
theorem c4w {s : Rt.Bs} {t : Tariff} (hw : Wrt t) (hf : Fit t.Fee) {l : List Token} {w : List Token} (hsc : Lx.scan s = (l, 0, 0)) (hs : s.length ≤ 1000000) (hl : l.map c3l = pwx t w)
    (he : ∀ a, Bg l a (w ++ [wS 59]) → Ev (fun n => tariff_reader_expr n (Rd l a 0)) (Rd l (a + w.length) 0, t.Fee)) : Ev (fun n => a9c n s) (t, 0, 0) := by
  have hlen : l.length = (pwx t w).length := by rw [← hl, List.length_map]
  have hl6 : l.length ≤ 1000000 := by have := c6d s; rw [hsc] at this; exact Nat.le_trans this hs
  have h0 : Bg l 0 (pwx t w) := ⟨[], by rw [List.drop_zero, hl, List.append_nil]⟩
  obtain ⟨nm, fee, cap⟩ := t
  have k0 : ∀ {c : Rt.Bs} {ws : List Token} {a : Nat}, Bg l a (wN c :: ws) → Ev (fun n => a1i n (Rd l a 0) [c]) (Rd l (a + 1) 0) ∧ Bg l (a + 1) ws := fun {c ws a} h =>
    ⟨c1k [wN c] (Bg.cut (u := [wN c]) h).1 hl6 (by intro w hw; obtain rfl := List.mem_singleton.1 hw; exact .inl rfl) (Nat.le_add_left 1 999), (Bg.cut (u := [wN c]) h).2⟩
  unfold pwx at h0
  obtain ⟨e1, h1⟩ := k0 h0
  obtain ⟨tn, e2, g2, _⟩ := d5l h1 hl6
  have h2 : Bg l (0 + 1 + 1) (wS 123 :: wN [102, 101, 101] :: wS 61 :: (w ++ wS 59 :: (capw cap ++ [wS 125]))) := (Bg.cut (u := [wN nm]) h1).2
  have e3 := c1k [wS 123, wN [102, 101, 101], wS 61] (Bg.cut (u := [wS 123, wN [102, 101, 101], wS 61]) h2).1 hl6 (by intro w hw; simp only [List.mem_cons, List.not_mem_nil, or_false] at hw; rcases hw with rfl | rfl | rfl <;> decide) (by decide)
  have h3 : Bg l (0 + 1 + 1 + 3) (w ++ wS 59 :: (capw cap ++ [wS 125])) := (Bg.cut (u := [wS 123, wN [102, 101, 101], wS 61]) h2).2
  have h3' := h3
  rw [show w ++ wS 59 :: (capw cap ++ [wS 125]) = (w ++ [wS 59]) ++ (capw cap ++ [wS 125]) by simp] at h3'
  have e4 := he _ h3'.cut.1
  have h4 := h3.cut.2
  obtain ⟨e5, h5⟩ := b1c h4 hl6
  obtain ⟨t6, _, f6, k6, x6, _, l6, _⟩ := h4.next
  have is6 : isT l (0 + 1 + 1 + 3 + w.length) 0 [59] = true := by
    unfold isT
    have : b9y l (0 + 1 + 1 + 3 + w.length) 0 = t6 := f6
    rw [this, k6, x6]; rfl
  obtain ⟨⟨z, b⟩, e7, hz⟩ := c8f hf 10 100 (by decide) (by decide)
  obtain rfl : b = true := hz.2 hw.2.1.1.1 hw.2.1.1.2
  unfold a9c
  refine Ev.bind (d4b hs) ?_
  rw [hsc]
  refine Ev.else rfl ?_
  refine Ev.bind e1 (Ev.bind (Ev.all e2) (Ev.bind e3 (Ev.bind e4 ?_)))
  refine Ev.bind (Ev.all fun n => is_n n [59] (by exact Nat.le_of_lt l6)) ?_
  rw [is6]
  refine Ev.bind (a := (false, z)) (Ev.then rfl (Ev.bind e7 (Ev.pure _))) ?_
  refine Ev.bind (a := (l, ((0 + 1 + 1 + 3 + w.length : Nat) : Int), 0)) (Ev.else rfl (Ev.pure _)) ?_
  refine Ev.bind e5 ?_
  have fin : ∀ (a : Nat) (c : Int), Bg l a [wS 125] → a + 1 = l.length → Ev (fun n => (a1i n (Rd l a 0) [[125]]).bind fun v10 =>
      (bif decide (v10.at_ < (l.length : Int)) then
       (a2q n v10 12).bind fun v11 =>
       some (v11.l, v11.at_, v11.e)
      else
       some (v10.l, v10.at_, v10.e)).bind fun (_, f10, f11) =>
      bif f11 == 0 then
       some ((⟨tn.Text, fee, c⟩ : Tariff), 0, 0)
      else
       bif decide (f10 < (l.length : Int)) then
        (ix l f10).bind fun ex1 =>
        some ((⟨[], (⟨0, 0, [], []⟩ : M.Expr), 0⟩ : Tariff), ex1.Pos, f11)
       else
        some ((⟨[], (⟨0, 0, [], []⟩ : M.Expr), 0⟩ : Tariff), (s.length : Int), f11)) (⟨nm, fee, c⟩, 0, 0) := by
    intro a c hb hal
    obtain ⟨e, _⟩ := b1c hb hl6
    refine Ev.bind e (Ev.bind (a := (l, ((a + 1 : Nat) : Int), 0)) (Ev.else (decide_eq_false (show ¬((a + 1 : Nat) : Int) < (l.length : Int) by omega)) (Ev.pure _)) (Ev.then rfl ?_))
    rw [g2]
    exact Ev.pure _
  simp only [pwx, List.length_cons, List.length_append, List.length_nil] at hlen
  by_cases hc : cap = -1
  · subst hc
    have h5' : Bg l (0 + 1 + 1 + 3 + w.length + 1) [wS 125] := h5
    have ht : ∀ n, a2a n (Rd l (0 + 1 + 1 + 3 + w.length + 1) 0) [99, 97, 112] = some (Rd l (0 + 1 + 1 + 3 + w.length + 1) 0, false) := h5'.leave hl6 (.inr (by decide))
    refine Ev.bind (Ev.all ht) (Ev.bind (a := (-1, l, ((0 + 1 + 1 + 3 + w.length + 1 : Nat) : Int), 0)) (Ev.else rfl (Ev.pure _)) ?_)
    refine fin _ _ h5' ?_
    have : (capw (-1)).length = 0 := rfl
    omega
  · have hcw : capw cap = [wN [99, 97, 112], wS 61, wK cap, wS 59] := if_pos hc
    rw [hcw] at h5
    have h5' : Bg l (0 + 1 + 1 + 3 + w.length + 1) (wN [99, 97, 112] :: wS 61 :: wK cap :: wS 59 :: [wS 125]) := h5
    have h6 := (Bg.cut (u := [wN [99, 97, 112]]) h5').2
    obtain ⟨e8, h7⟩ := b1c h6 hl6
    obtain ⟨tc, e9, _, g9⟩ := d5l h7 hl6
    have h8 := (Bg.cut (u := [wK cap]) h7).2
    obtain ⟨e10, h9⟩ := b1c h8 hl6
    refine Ev.bind (Ev.all (h5'.take hl6 (.inl rfl))) (Ev.bind (a := (cap, l, ((0 + 1 + 1 + 3 + w.length + 1 + 1 + 1 + 1 + 1 : Nat) : Int), 0)) (Ev.then rfl (Ev.bind e8 (Ev.bind (Ev.all e9) (Ev.bind e10 ?_)))) ?_)
    · refine (Ev.pure _).eq ?_
      rw [g9]; rfl
    refine fin _ _ h9 ?_
    rw [hcw] at hlen
    simp only [List.length_cons, List.length_nil] at hlen ⊢
    omega
theorem parse_ptx {t : Tariff} (hw : Wrt t) (hf : Fit t.Fee) : Ev (fun n => a9c n (ptx t)) (t, 0, 0) := by
 obtain ⟨l, h1, h2⟩ := d2k hw
 have h3 := (c4h hw).2
 refine c4w hw hf h1 (by omega) h2 fun a hb => ?_
 refine (d3z hw.2.1.2).2.1 l a _ (wS 59) ?_ hb rfl rfl
 have := c6d (ptx t); rw [h1] at this; dsimp only at this; omega
end Go.Proofs.YtknpjecpcmajiaaGreatDoor.Pr

namespace Go.Proofs.YtknpjecpcmajiaaGreatDoor.Fe
open Go Rt M Ta Tp D
def d4c (o : Int) : Bool := bif o == 5 then true else bif o == 7 then true else bif o == 9 then true else bif o == 10 then true else bif o == 13 then true else bif o == 15 then true else o == 16
theorem c9r (o : Int) : d4c o = com o := by
 unfold d4c com
 cases o == 5 <;> cases o == 7 <;> cases o == 9 <;> cases o == 10 <;> cases o == 13 <;> cases o == 15 <;> rfl
theorem d5j (o : Int) : (bif o == 5 then some true else bif o == 7 then some true else bif o == 9 then some true else bif o == 10 then some true else bif o == 13 then some true else bif o == 15 then some true else some (o == 16)) = some (com o) := by
 rw [← c9r]; unfold d4c
 cases o == 5 <;> cases o == 7 <;> cases o == 9 <;> cases o == 10 <;> cases o == 13 <;> cases o == 15 <;> rfl
theorem c6l (x : M.Expr) (hx : x.Args.length ≤ 1000) (K : List M.Expr → Option M.Expr) : ∀ (us : List M.Expr) (i : Nat) (acc : List M.Expr), x.Args.drop i = us → acc.length + us.length ≤ 1000 → (∀ y, y ∈ us → Ev (fun n => law36_turned n y) (tu y)) →
  ∃ N, ∀ n m, N ≤ n → us.length < m → a3w n (law36_turned n) x K m (i : Int) acc = K (bif com x.Op then (tus us).reverse ++ acc else acc ++ tus us)
 | [], i, acc, hd, _, _ => by
  refine ⟨0, fun n m _ hm => ?_⟩
  obtain ⟨m, rfl⟩ := left hm
  rw [a9y, b0x hd]
  cases com x.Op <;> simp [tus]
 | y :: us, i, acc, hd, ha, H => by
  obtain ⟨h1, h2, h3⟩ := Rt.drop_cons hd
  obtain ⟨N1, e1⟩ := H y (by simp)
  simp only [List.length_cons] at ha
  obtain ⟨N, ih⟩ := c6l x hx K us (i + 1) (bif com x.Op then tu y :: acc else acc ++ [tu y]) h2 (by cases com x.Op <;> simp <;> omega) (fun z hz => H z (by simp [hz]))
  refine ⟨max N N1, fun n m hn hm => ?_⟩
  obtain ⟨m, rfl, hm2⟩ := pred (by simpa using hm)
  have e1 : law36_turned n y = some (tu y) := e1 n (by omega)
  have ih := ih n m (by omega) hm2
  rw [a9y, a5c hd, cond_true, h1, Option.bind_some, e1, Option.bind_some, d5j, Option.bind_some]
  cases hc : com x.Op with
  | true =>
   rw [hc, cond_true, cond_true] at ih
   rw [cond_true, c4g (by simp only [List.length_cons, List.length_nil]; omega), Option.bind_some, Rt.inc64 (by omega)]
   exact ih.trans (by rw [cond_true, tus, List.reverse_cons, List.append_assoc]; rfl)
  | false =>
   rw [hc, cond_false, cond_false] at ih
   rw [cond_false, c4g (by simp only [List.length_cons, List.length_nil]; omega), Option.bind_some, Rt.inc64 (by omega)]
   exact ih.trans (by rw [cond_false, tus, List.append_assoc]; rfl)
theorem b3b {o k : Int} {s : Rt.Bs} {l : List M.Expr} (hl : l.length ≤ 1000) (H : ∀ y, y ∈ l → Ev (fun n => law36_turned n y) (tu y)) : Ev (fun n => law36_turned n ⟨o, k, s, l⟩) (tu ⟨o, k, s, l⟩) := by
 refine Ev.suc (fun n => b5h n _) ?_
 obtain ⟨N, h⟩ := c6l ⟨o, k, s, l⟩ hl (fun l2 => some ⟨o, k, s, l2⟩) l 0 [] rfl (by simpa using hl) H
 refine ⟨N + l.length + 1, fun n hn => (h n n (by omega) (by omega)).trans ?_⟩
 rw [d4y]
 dsimp only
 rw [List.append_nil, List.nil_append]
theorem c8w {names : List Rt.Bs} {x : M.Expr} {k : Int} (h : Typ names x k) : Ev (fun n => law36_turned n x) (tu x) := by
 have t2 : ∀ {o : Int} {a b : M.Expr}, Ev (fun n => law36_turned n a) (tu a) → Ev (fun n => law36_turned n b) (tu b) → Ev (fun n => law36_turned n ⟨o, 0, [], [a, b]⟩) (tu ⟨o, 0, [], [a, b]⟩) := fun ha hb => b3b (by simp) (by
  intro y hy; simp only [List.mem_cons, List.not_mem_nil, or_false] at hy; rcases hy with rfl | rfl <;> first | exact ha | exact hb)
 have t0 : ∀ (o k : Int) (s : Rt.Bs), Ev (fun n => law36_turned n ⟨o, k, s, []⟩) (tu ⟨o, k, s, []⟩) := fun o k s => b3b (by simp) (by intro y hy; cases hy)
 induction h with
 | num => exact t0 _ _ _
 | lifts => exact t0 _ _ _
 | pers => exact t0 _ _ _
 | flats => exact t0 _ _ _
 | wgt => exact t0 _ _ _
 | ari _ _ _ _ _ ha hb => exact t2 ha hb
 | mul _ _ _ _ _ ha hb => exact t2 ha hb
 | div _ _ _ _ ha => exact t2 ha (t0 _ _ _)
 | ite _ _ _ _ _ hc ha hb =>
  exact b3b (by simp) (by
   intro y hy; simp only [List.mem_cons, List.not_mem_nil, or_false] at hy; rcases hy with rfl | rfl | rfl <;> first | exact hc | exact ha | exact hb)
 | rel _ _ _ ha hb => exact t2 ha hb
 | not _ ha => exact b3b (by simp) (by intro y hy; simp only [List.mem_cons, List.not_mem_nil, or_false] at hy; rcases hy with rfl; exact ha)
 | bin _ _ _ ha hb => exact t2 ha hb
theorem turns_ev (t : Tariff) (names : List Rt.Bs) (f : Facts) (weights : List Frac) : Ev (fun n => b0f n t names f weights) true := by
 unfold b0f
 refine Ev.bind small36 ?_
 obtain ⟨b, hb, hq⟩ := d7r t names f weights
 refine Ev.bind hb ?_
 cases b with
 | false => exact Ev.then rfl (Ev.pure _)
 | true =>
 refine Ev.else rfl ?_
 have s1 := hq rfl
 have hn8 := s1.nl
 obtain ⟨r, er, hr⟩ := d5f s1.fit (show names.length < _ by omega) s1.lim (by decide) (by decide) (by have := s1.ll; omega) (by have := s1.wl; omega) (f := f)
 refine Ev.bind er ?_
 rcases hr with ⟨h0, hc, ws, rfl, hrf, hsm, hs, hv⟩ | ⟨hne, hz⟩
 rotate_left
 ·exact Ev.then (by simpa using hne) (Ev.pure _)
 obtain ⟨r1, r0⟩ := r
 dsimp only at h0 hv
 subst h0 hv
 refine Ev.else rfl ?_
 obtain ⟨k, hk, ht⟩ := hc.2.2
 refine Ev.bind (c8w ht) ?_
 have hcu := d6z hc
 have hfu : Fit (tuT t).Fee := d3w (c9f ht)
 have hev := (c6p hfu (show names.length < _ by omega) hsm (by decide) (by decide) (by omega) hcu hrf).1
 have hfv : fv names f ws (tuT t) = fv names f ws t := congrArg Prod.fst (d6o (mkE names f ws) ht)
 rw [hfv] at hev
 refine Ev.bind hev ?_
 obtain ⟨p, ep, hp⟩ := Pr.print_ev s1.fit
 have hp : p = (Pr.ptx t, true) := by
  rcases hp with hp | hp
  ·exact hp.2
  ·exact absurd hc.2.1 hp.1
 subst hp
 refine Ev.bind ep (Ev.bind (Pr.parse_ptx hc.2.1 s1.fit) ?_)
 have hcap := hc.2.1.2.2
 have hev0 := (c6p s1.fit (show names.length < _ by omega) hsm (by decide) (by decide) (by omega) hc hrf).1
 have hcc := d0d hcap hs hev0
 refine Ev.bind hcc (Ev.bind hcc ?_)
 have same : ∀ v : Rat, SmF 9000 v → Ev (fun n => a5g n (toF v) (toF v)) true := fun v h => (d6w v v h).eq (decide_eq_true rfl)
 have hs9 : SmF 9000 (fv names f ws t) := hs.mono (by omega)
 have hsc : SmF 9000 (capV t.Cap (fv names f ws t)) := by
  unfold capV
  split
  ·exact smI (x := 0) (by decide) (by decide) (by decide)
  ·split
   ·exact smI (by omega) (by omega) (by decide)
   ·exact hs9
 exact D.and_pure rfl rfl (D.and_pure rfl rfl (D.and_pure rfl rfl (D.and_pure rfl rfl (D.and_pure rfl rfl (D.and_call rfl (same _ hs9) (D.and_call rfl (same _ hsc) (Ev.pure _)))))))
end Go.Proofs.YtknpjecpcmajiaaGreatDoor.Fe

namespace Go.Proofs.YtknpjecpcmajiaaGreatDoor.FeeTurns
open Go Go.ChangeShapes Go.WideShapes Go.ChangeAt Go.RowKit Rt Wrap
set_option maxRecDepth 100000 in
theorem d1z (H : Type) (enc : TypeId × Value → H) (W : World) (base : Nat) (args : Array Value) (ds gs : List (DataW H)) (before : List MemPlace)
  (hval : ∀ (j : Nat) t v, Tryz.f3.params[j]? = some t → args[j]? = some v → Value.okWide Tryz.prog W .any base t v)
  (hW : DataW.Whole enc Tryz.prog Tryz.f3.params.toList Rows.feeTurnsSpec.vars false W args.toList ds gs before) (hL : laidMetH Tryz.prog tabs W) :
  Calls Tryz.prog 3 args W fun e W' => ∃ v, e = .returned v ∧ Rows.feeTurnsSpec.post enc Tryz.prog Tryz.f3 false true false false W args v W' := by
 have hW' := hW
 obtain ⟨p, q, hA0, hV, rfl, hfz, hnd⟩ := hW
 have hA : DataW.TrodAll enc Tryz.prog W 0 (fun _ => true) true Tryz.f3.params.toList args.toList ds p := hA0
 rw [Tryz.params3] at hA hval
 obtain ⟨v0, vs0, d0, ds0, p0, q0, hargs, rfl, rfl, h0, r0⟩ := trodAll_cons hA
 obtain ⟨v1, vs1, d1, ds1, p1, q1, rfl, rfl, rfl, h1, r1⟩ := trodAll_cons r0
 obtain ⟨v2, vs2, d2, ds2, p2, q2, rfl, rfl, rfl, h2, r2⟩ := trodAll_cons r1
 obtain ⟨v3, vs3, d3, ds3, p3, q3, rfl, rfl, rfl, h3, r3⟩ := trodAll_cons r2
 obtain ⟨rfl, rfl, rfl⟩ := trodAll_nil r3
 obtain rfl : args = #[v0, v1, v2, v3] := by cases args; simp_all
 obtain ⟨rfl, rfl⟩ := trodVars_none hV
 obtain ⟨cs0, rfl, hsz0⟩ := okWide_struct Tryz.underlying26 (hval 0 26 v0 rfl rfl)
 obtain ⟨y0, hr0, ho0⟩ := c1z (d5b W) h0
 obtain ⟨ax0_4, nx0_4, cx0_4, he0, sx0_4⟩ := hr0
 have he0' : cs0.toList = [vs y0.Name, .int .i64 y0.Fee.Op, .int .i64 y0.Fee.N, vs y0.Fee.Name, .slice ax0_4 nx0_4 cx0_4, .int .i64 y0.Cap] := he0
 obtain rfl : cs0 = #[vs y0.Name, .int .i64 y0.Fee.Op, .int .i64 y0.Fee.N, vs y0.Fee.Name, .slice ax0_4 nx0_4 cx0_4, .int .i64 y0.Cap] := by rw [← Array.toArray_toList (xs := cs0), he0']
 obtain ⟨a1, n1, c1, l1, rfl, hl1, ho1⟩ := d0t Tryz.underlying27 (d5v W) (hval 1 27 v1 rfl rfl) h1
 obtain ⟨cs2, rfl, hsz2⟩ := okWide_struct Tryz.underlying30 (hval 2 30 v2 rfl rfl)
 obtain ⟨y2, hr2, ho2⟩ := c1z (d5t W) h2
 obtain ⟨ax2_0, nx2_0, cx2_0, he2, sx2_0⟩ := hr2
 have he2' : cs2.toList = [.slice ax2_0 nx2_0 cx2_0, .int .i64 y2.Persons, .int .i64 y2.Flats] := he2
 obtain rfl : cs2 = #[.slice ax2_0 nx2_0 cx2_0, .int .i64 y2.Persons, .int .i64 y2.Flats] := by rw [← Array.toArray_toList (xs := cs2), he2']
 obtain ⟨a3, n3, c3, l3, rfl, hl3, ho3⟩ := d0t Tryz.underlying31 (d4u W) (hval 3 31 v3 rfl rfl) h3
 obtain ⟨N, hN⟩ := Fe.turns_ev y0 l1 y2 l3
 refine (M.law36_FeeTurns_ok N y0 l1 y2 l3 true (hN N (Nat.le_refl N)) (d3u W) sx0_4 hl1 sx2_0 hl3 (d6g hL) (d7d hL)).mono ?_
 rintro e W' ⟨v, F', O', rfl, hh, rfl, rfl⟩
 refine ⟨_, rfl, c9y laidOut ?_ rfl (by kernel_rfl) Tryz.underlying4 rfl hW' hh.below⟩
 rw [Tryz.params3]
 intro t ht
 have ht : t ∈ [26, 27, 30, 31] := ht
 rcases List.mem_cons.1 ht with rfl | ht
 ·exact ⟨by kernel_rfl, of_decide_eq_true (by kernel_rfl)⟩
 rcases List.mem_cons.1 ht with rfl | ht
 ·exact ⟨by kernel_rfl, of_decide_eq_true (by kernel_rfl)⟩
 rcases List.mem_cons.1 ht with rfl | ht
 ·exact ⟨by kernel_rfl, of_decide_eq_true (by kernel_rfl)⟩
 rcases List.mem_cons.1 ht with rfl | ht
 ·exact ⟨by kernel_rfl, of_decide_eq_true (by kernel_rfl)⟩
 exact absurd ht (List.not_mem_nil)
theorem reads (os : Os) {H : Type} (enc : TypeId × Value → H) : ∃ places, DataW.whole enc Tryz.prog ((b8p os).forCall (fun _ _ => 0) ⟨#[], #[.agg #[.string ⟨#[]⟩, .int .i64 0, .int .i64 0, .string ⟨#[]⟩, .slice none 0 0, .int .i64 0], .slice none 0 0, .agg #[.slice none 0 0, .int .i64 0, .int .i64 0], .slice none 0 0], []⟩).memory Tryz.f3.params.toList Rows.feeTurnsSpec.vars false (#[.agg #[.string ⟨#[]⟩, .int .i64 0, .int .i64 0, .string ⟨#[]⟩, .slice none 0 0, .int .i64 0], .slice none 0 0, .agg #[.slice none 0 0, .int .i64 0, .int .i64 0], .slice none 0 0] : Array Value).toList 8 = some ([.agg [.lit (.string []), .agg [.lit (.int .i64 0), .lit (.int .i64 0), .lit (.string []), .nil], .lit (.int .i64 0)], .nil, .agg [.nil, .lit (.int .i64 0), .lit (.int .i64 0)], .nil], [], places) :=
 ⟨[], by kernel_rfl⟩
set_option maxRecDepth 100000 in
theorem d6h (os : Os) (started : os.Started) (H : Type) (enc : TypeId × Value → H) (F : Stop.Interp) :
  ReturnsInHanded {} Tryz.checked os 3 .any ((OpenSpec.ofChange Rows.feeTurnsSpec).preRow enc Tryz.prog Tryz.f3 Rows.feeTurnsRow.domain false Rows.feeTurnsRow.laid) (((OpenSpec.ofChange Rows.feeTurnsSpec).at F).post enc Tryz.prog Tryz.f3 false true false false) := by
 obtain ⟨places, hx⟩ := reads os enc
 refine returnsInHanded_of_row (C := Tryz.checked) (s := OpenSpec.ofChange Rows.feeTurnsSpec) own started (by kernel_rfl) Tryz.func3
  (witness_row_at (enc := enc) (C := Tryz.checked) false (b8p os) #[.agg #[.string ⟨#[]⟩, .int .i64 0, .int .i64 0, .string ⟨#[]⟩, .slice none 0 0, .int .i64 0], .slice none 0 0, .agg #[.slice none 0 0, .int .i64 0, .int .i64 0], .slice none 0 0] rfl (by kernel_rfl) (by kernel_rfl) (by kernel_rfl)
   (OpenSpec.preRow_of_cond 8 hx (by kernel_rfl) (fun k hk => by cases hk) (by kernel_rfl) (d1q os _))) ?_
 intro W base args ds gs before hval hW _ _ _ hL _ _
 exact d1z H enc W base args ds gs before hval hW hL
theorem said : Rows.FeeTurnsSaid :=
 OpenClaim.holds_of_cond 3 Tryz.f3 rfl rfl rfl rfl rfl rfl rfl ⟨rfl, rfl, rfl, rfl, rfl⟩ rfl rfl rfl rfl rfl (by kernel_rfl) Tryz.func3 (by kernel_rfl)
  (of_decide_eq_true (by kernel_rfl)) (by unfold Func.isWrapper; first | (rw [if_pos (by decide +kernel)]; kernel_rfl) | (rw [if_neg (by decide +kernel)]; exact ⟨rfl, rfl⟩))
  (fun os started H enc _ F => by rw [OpenClaim.pre_eq_preRow]; exact d6h os started H enc F)
theorem plain (f : FuncId) (fn : Func) (hf : Tryz.pinned.checked.prog.funcNamed "kerbside/kerbsidelaw36.FeeTurns" = some f) (hfn : Tryz.pinned.checked.prog.funcs[f]? = some fn) :
  false = Tryz.pinned.checked.prog.looks [] ∧ ∀ (j : Nat) t, fn.params[j]? = some t → Tryz.pinned.checked.prog.wantsStandIn t = false := by
 obtain rfl : f = 3 := Option.some.inj ((show Tryz.prog.funcNamed "kerbside/kerbsidelaw36.FeeTurns" = some 3 by kernel_rfl).symm.trans hf) |>.symm
 obtain rfl : fn = Tryz.f3 := (Option.some.inj (Tryz.func3.symm.trans hfn)).symm
 refine ⟨by kernel_rfl, fun j t ht => ?_⟩
 rw [Tryz.params3] at ht
 have ht : t ∈ [26, 27, 30, 31] := Array.mem_toList_iff.2 (Array.mem_of_getElem? ht)
 rcases List.mem_cons.1 ht with rfl | ht
 ·exact (show Tryz.prog.wantsStandIn 26 = false by kernel_rfl)
 rcases List.mem_cons.1 ht with rfl | ht
 ·exact (show Tryz.prog.wantsStandIn 27 = false by kernel_rfl)
 rcases List.mem_cons.1 ht with rfl | ht
 ·exact (show Tryz.prog.wantsStandIn 30 = false by kernel_rfl)
 rcases List.mem_cons.1 ht with rfl | ht
 ·exact (show Tryz.prog.wantsStandIn 31 = false by kernel_rfl)
 exact absurd ht (List.not_mem_nil)
theorem card : Rows.FeeTurnsCardSaid :=
 Claim7.holds_tied_plain_at .later [] _ _ _ _ said (fun _ h => by cases h) (by kernel_rfl) (fun _ h => by cases h) feeTurns_row_tie rfl ⟨rfl, rfl⟩ (by kernel_rfl) rfl plain (by kernel_rfl)
end Go.Proofs.YtknpjecpcmajiaaGreatDoor.FeeTurns

