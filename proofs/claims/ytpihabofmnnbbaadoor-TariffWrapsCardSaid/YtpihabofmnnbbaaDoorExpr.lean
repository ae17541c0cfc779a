/-
  The expressions of a tariff: a struct that leads back to itself, and how its cells read.
-/
import Derived.Test.YtpihabofmnnbbaaDoorRt8
namespace Go.Proofs.YtpihabofmnnbbaaDoor.M
open Go Go.RowKit Rt

structure Expr where
  Op : Int
  N : Int
  Name : Bs
  Args : List Expr
instance : Inhabited Expr := ⟨⟨0, 0, [], []⟩⟩

mutual
def ExprR (F : Frz) (cs : List Value) : Expr → Prop
  | ⟨o, n, s, l⟩ => ∃ a m c, cs = [.int .i64 o, .int .i64 n, vs s, .slice a m c] ∧ l.length = m ∧ l.length ≤ c ∧ c ≤ maxLen ∧ (l = [] ∨ ∃ b off row, a = some ⟨b, off, none⟩ ∧ FC F b off row ∧ ExprRow F row l)
def ExprRow (F : Frz) (cs : List Value) : List Expr → Prop
  | [] => cs = []
  | x :: xs => ∃ c1 ys, cs = c1 ++ ys ∧ ExprR F c1 x ∧ ExprRow F ys xs
 end

mutual
theorem ExprR.mono {F F' : Frz} (hF : F.le F') : ∀ {cs : List Value} (x : Expr), ExprR F cs x → ExprR F' cs x
  | cs, ⟨o, n, s, l⟩, h => by
    simp only [ExprR] at h ⊢
    obtain ⟨a, m, c, h1, h0, h2, h3, h4⟩ := h
    refine ⟨a, m, c, h1, h0, h2, h3, h4.imp id ?_⟩
    rintro ⟨b, off, row, e1, e2, e3⟩
    exact ⟨b, off, row, e1, e2.mono hF, ExprRow.mono hF l e3⟩
theorem ExprRow.mono {F F' : Frz} (hF : F.le F') : ∀ {cs : List Value} (l : List Expr), ExprRow F cs l → ExprRow F' cs l
  | cs, [], h => by simp only [ExprRow] at h ⊢; exact h
  | cs, x :: xs, h => by
    simp only [ExprRow] at h ⊢
    obtain ⟨c1, ys, h1, h2, h3⟩ := h
    exact ⟨c1, ys, h1, ExprR.mono hF x h2, ExprRow.mono hF xs h3⟩
 end
theorem ExprR.open {F : Frz} {cs : List Value} {x : Expr} (h : ExprR F cs x) : ∃ a m c, cs = [.int .i64 x.Op, .int .i64 x.N, vs x.Name, .slice a m c] := by
  obtain ⟨o, n, s, l⟩ := x
  simp only [ExprR] at h
  obtain ⟨a, m, c, h1, _⟩ := h
  exact ⟨a, m, c, h1⟩

def rp_Expr : Rp Expr where
  k := 4
  R := ExprR
  len := fun h => by obtain ⟨a, m, c, rfl⟩ := h.open; rfl
  mono := fun hF h => ExprR.mono hF _ h
  one := fun h u hu => by
    obtain ⟨a, m, c, rfl⟩ := h.open
    simp at hu
    rcases hu with rfl | rfl | rfl | rfl <;> rfl

theorem exprRow_iff {F : Frz} : ∀ {l : List Expr} {cs : List Value}, ExprRow F cs l ↔ RowR rp_Expr F cs l
  | [], cs => by simp only [ExprRow, RowR]
  | x :: xs, cs => by
    simp only [ExprRow, RowR]
    constructor
    · rintro ⟨c1, ys, h1, h2, h3⟩; exact ⟨c1, ys, h1, h2, exprRow_iff.1 h3⟩
    · rintro ⟨c1, ys, h1, h2, h3⟩; exact ⟨c1, ys, h1, h2, exprRow_iff.2 h3⟩
theorem expr_iff {F : Frz} {cs : List Value} {x : Expr} : rp_Expr.R F cs x ↔ ∃ a m c, cs = [.int .i64 x.Op, .int .i64 x.N, vs x.Name, .slice a m c] ∧ SlR rp_Expr F a m c x.Args := by
  obtain ⟨o, n, s, l⟩ := x
  show ExprR F cs ⟨o, n, s, l⟩ ↔ _
  simp only [ExprR, SlR]
  constructor
  · rintro ⟨a, m, c, h1, h0, h2, h3, h4⟩
    refine ⟨a, m, c, h1, h0, h2, h3, h4.imp id ?_⟩
    rintro ⟨b, off, row, e1, e2, e3⟩
    exact ⟨b, off, row, e1, e2, exprRow_iff.1 e3⟩
  · rintro ⟨a, m, c, h1, h0, h2, h3, h4⟩
    refine ⟨a, m, c, h1, h0, h2, h3, h4.imp id ?_⟩
    rintro ⟨b, off, row, e1, e2, e3⟩
    exact ⟨b, off, row, e1, e2, exprRow_iff.2 e3⟩
end Go.Proofs.YtpihabofmnnbbaaDoor.M
