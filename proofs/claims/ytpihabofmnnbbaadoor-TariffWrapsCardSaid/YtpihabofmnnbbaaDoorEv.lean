/-
  WHAT COMES OF A MIRROR WITH FUEL ENOUGH: 'Ev f r': from some n on, f n is r. And the operations of the mirrors at numbers that fit.
-/
import Derived.Test.YtpihabofmnnbbaaDoorRtR
namespace Go.Proofs.YtpihabofmnnbbaaDoor.Rt
open Go

def Ev {α : Type} (f : Nat → Option α) (r : α) : Prop := ∃ N, ∀ n, N ≤ n → f n = some r
section
variable {α β : Type}
theorem Ev.pure (a : α) : Ev (fun _ => some a) a := ⟨0, fun _ _ => rfl⟩
theorem Ev.all {f : Nat → Option α} {r : α} (h : ∀ n, f n = some r) : Ev f r := ⟨0, fun n _ => h n⟩
theorem Ev.bind {x : Nat → Option α} {f : Nat → α → Option β} {a : α} {b : β} (hx : Ev x a) (hf : Ev (fun n => f n a) b) : Ev (fun n => (x n).bind (f n)) b := by
  obtain ⟨N, hN⟩ := hx
  obtain ⟨M, hM⟩ := hf
  refine ⟨max N M, fun n hn => ?_⟩
  show (x n).bind (f n) = some b
  rw [hN n (by omega)]
  exact hM n (by omega)
theorem Ev.step {x : Option α} {f : Nat → α → Option β} {a : α} {b : β} (hx : x = some a) (hf : Ev (fun n => f n a) b) : Ev (fun n => x.bind (f n)) b := by
  subst hx; exact hf
theorem Ev.then {x : Nat → Option α} {b : α} {c : Bool} {y : Nat → Option α} (hc : c = true) (h : Ev x b) : Ev (fun n => bif c then x n else y n) b := by subst hc; exact h
theorem Ev.else {x : Nat → Option α} {b : α} {c : Bool} {y : Nat → Option α} (hc : c = false) (h : Ev y b) : Ev (fun n => bif c then x n else y n) b := by subst hc; exact h
theorem Ev.from {f g : Nat → Option α} {r : α} (N : Nat) (h : ∀ n, N ≤ n → f n = g n) (hg : Ev g r) : Ev f r := by
  obtain ⟨M, hM⟩ := hg
  exact ⟨max N M, fun n hn => by rw [h n (by omega)]; exact hM n (by omega)⟩
theorem Ev.eq {f : Nat → Option α} {r s : α} (h : Ev f r) (e : r = s) : Ev f s := e ▸ h
theorem Ev.uniq {f : Nat → Option α} {r s : α} (h : Ev f r) (k : Ev f s) : r = s := by
  obtain ⟨N, hN⟩ := h
  obtain ⟨M, hM⟩ := k
  have h1 := hN (max N M) (by omega)
  rw [hM (max N M) (by omega)] at h1
  exact (Option.some.inj h1).symm
end

theorem wrap64 (x : Int) : IntKind.i64.wrap x = if x % 18446744073709551616 ≥ 9223372036854775808 then x % 18446744073709551616 - 18446744073709551616 else x % 18446744073709551616 := by
  simp [IntKind.wrap, IntKind.bits, IntKind.signed]
theorem wrap_i64 {x : Int} (h1 : -9223372036854775808 ≤ x) (h2 : x ≤ 9223372036854775807) : IntKind.i64.wrap x = x := by
  rw [wrap64]; split <;> omega
theorem wrapu64 (x : Int) : IntKind.u64.wrap x = x % 18446744073709551616 := by
  simp [IntKind.wrap, IntKind.bits, IntKind.signed]
theorem wrapu8 (x : Int) : IntKind.u8.wrap x = x % 256 := by
  simp [IntKind.wrap, IntKind.bits, IntKind.signed]
theorem iadd_i64 {x y : Int} (h1 : -9223372036854775808 ≤ x + y) (h2 : x + y ≤ 9223372036854775807) : iadd .i64 x y = x + y := wrap_i64 h1 h2
theorem isub_i64 {x y : Int} (h1 : -9223372036854775808 ≤ x - y) (h2 : x - y ≤ 9223372036854775807) : isub .i64 x y = x - y := wrap_i64 h1 h2
theorem imul_i64 {x y : Int} (h1 : -9223372036854775808 ≤ x * y) (h2 : x * y ≤ 9223372036854775807) : imul .i64 x y = x * y := wrap_i64 h1 h2
theorem iand_nat (k : IntKind) (x : Int) (m : Nat) (hk : k.bits = 64) (hm : m < 64) : (BitVec.ofInt k.bits x &&& BitVec.ofInt k.bits ((2 ^ m - 1 : Nat) : Int)).toNat = (x % 18446744073709551616).toNat % 2 ^ m := by
  rw [BitVec.toNat_and, BitVec.toNat_ofInt, BitVec.toNat_ofInt, hk]
  have h2 : (((2 ^ m - 1 : Nat) : Int) % ((2 ^ 64 : Nat) : Int)).toNat = 2 ^ m - 1 := by
    have : 2 ^ m < 2 ^ 64 := Nat.pow_lt_pow_right (by omega) hm
    rw [← Int.natCast_emod, Int.toNat_natCast, Nat.mod_eq_of_lt (by omega)]
  rw [h2, Nat.and_two_pow_sub_one_eq_mod]
  rfl
theorem iand_mask (x : Int) : iand .i64 x 1048575 = x % 1048576 := by
  have h := iand_nat .i64 x 20 rfl (by omega)
  have e : ((2 ^ 20 - 1 : Nat) : Int) = 1048575 := by decide
  rw [e] at h
  unfold iand
  rw [h, wrap_i64 (by omega) (by omega)]
  omega
theorem iand_masku {x : Int} (h0 : 0 ≤ x) (h1 : x < 18446744073709551616) : iand .u64 x 1048575 = x % 1048576 := by
  have h := iand_nat .u64 x 20 rfl (by omega)
  have e : ((2 ^ 20 - 1 : Nat) : Int) = 1048575 := by decide
  rw [e] at h
  unfold iand
  rw [h, wrapu64]
  omega
theorem iand_one (x : Int) : iand .i64 x 1 = x % 2 := by
  have h := iand_nat .i64 x 1 rfl (by omega)
  have e : ((2 ^ 1 - 1 : Nat) : Int) = 1 := by decide
  rw [e] at h
  unfold iand
  rw [h, wrap_i64 (by omega) (by omega)]
  omega
theorem shr_i64 (x : Int) : shr .i64 x 20 = some (x / 1048576) := by
  unfold shr
  rw [if_neg (by omega), Int.fdiv_eq_ediv_of_nonneg _ (by decide)]
  rfl
theorem shr_u64 (x : Int) : shr .u64 x 20 = some (x / 1048576) := by
  unfold shr
  rw [if_neg (by omega), Int.fdiv_eq_ediv_of_nonneg _ (by decide)]
  rfl
theorem shl_i64 {x : Int} (h0 : -8796093022208 ≤ x) (h1 : x < 8796093022208) : shl .i64 x 20 = some (x * 1048576) := by
  unfold shl
  rw [if_neg (by omega), show (2 : Int) ^ (min (20 : Int).toNat IntKind.i64.bits) = 1048576 from by decide, wrap_i64 (by omega) (by omega)]
theorem ior_i64 {x y : Int} (h0 : 0 ≤ x) (h1 : x < 8796093022208) (h2 : 0 ≤ y) (h3 : y < 1048576) : ior .i64 (x * 1048576) y = x * 1048576 + y := by
  obtain ⟨p, rfl⟩ := Int.eq_ofNat_of_zero_le h0
  obtain ⟨q, rfl⟩ := Int.eq_ofNat_of_zero_le h2
  unfold ior
  rw [BitVec.toNat_or, BitVec.toNat_ofInt, BitVec.toNat_ofInt, show IntKind.i64.bits = 64 from rfl]
  have e1 : (((p : Int) * 1048576) % ((2 ^ 64 : Nat) : Int)).toNat = 2 ^ 20 * p := by omega
  have e2 : ((q : Int) % ((2 ^ 64 : Nat) : Int)).toNat = q := by omega
  rw [e1, e2, ← Nat.two_pow_add_eq_or_of_lt (by omega), wrap_i64 (by omega) (by omega)]
  omega
theorem quo_i64 {x y : Int} (h0 : 0 ≤ x) (h1 : x ≤ 9223372036854775807) (h2 : 0 < y) : quo .i64 x y = some (x / y) := by
  unfold quo
  have h3 := Int.ediv_nonneg h0 (Int.le_of_lt h2)
  have h4 := Int.ediv_le_self y h0
  rw [if_neg (by omega), Int.tdiv_eq_ediv_of_nonneg h0, wrap_i64 (by omega) (by omega)]
theorem rem_pos {x y : Int} (h0 : 0 ≤ x) (h2 : 0 < y) : rem x y = some (x % y) := by
  unfold rem
  rw [if_neg (by omega), Int.tmod_eq_emod_of_nonneg h0]

/- lists -/
section
variable {α : Type}
theorem ix_nat (l : List α) (i : Nat) : ix l (i : Int) = l[i]? := by simp [ix]
theorem ix_mid (p : List α) (x : α) (s : List α) {i : Int} (hi : i = p.length) : ix (p ++ x :: s) i = some x := by
  subst hi; rw [ix_nat]; simp
theorem lset_mid (p : List α) (x y : α) (s : List α) {i : Int} (hi : i = p.length) : lset (p ++ x :: s) i y = some (p ++ y :: s) := by
  subst hi
  unfold lset
  rw [if_pos ⟨by omega, by simp; omega⟩]
  simp
theorem mks_eq {b : Nat} {z : α} {n : Nat} (h : n * b ≤ 140737488355328) : mks b z (n : Int) = some (List.replicate n z) := by
  unfold mks; rw [if_pos ⟨by omega, by simpa using h⟩]; simp
theorem app_eq {b : Nat} {l m : List α} (h : (l.length + m.length) * b ≤ 140737488355328) : app b l m = some (l ++ m) := by unfold app; rw [if_pos h]
theorem lsl_eq {l : List α} {p q : Nat} (h : p ≤ q) (h2 : q ≤ l.length) : lsl l (p : Int) (q : Int) = some ((l.take q).drop p) := by
  unfold lsl; rw [if_pos ⟨by omega, by omega, by omega⟩]; simp
end
end Go.Proofs.YtpihabofmnnbbaaDoor.Rt
