/-
  THE RUNTIME OF THE MIRRORS, part 5: append, slices that are read, freezing, calls that make memory, results that lie in memory.
-/
import Derived.Test.YtpihabofmnnbbaaDoorRt4
import Derived.Laws.StructEq
import Derived.Laws.BytesString
namespace Go.Proofs.YtpihabofmnnbbaaDoor.Rt
open Go Go.RowKit

def strOf (l : List Int) : Bs := l.map fun x => UInt8.ofNat x.toNat
theorem prefix_drop {α : Type} {l l2 : List α} (h : l <+: l2) (m : Nat) : l.drop m <+: l2.drop m := by
  obtain ⟨t, rfl⟩ := h
  exact ⟨t.drop (m - l.length), by rw [List.drop_append]⟩
theorem fold_push (l : List Int) : ∀ acc : ByteArray, (l.foldl (fun r n => r.push (UInt8.ofNat n.toNat)) acc).data.toList = acc.data.toList ++ strOf l := by
  induction l with
  | nil => intro acc; simp [strOf]
  | cons x l ih => intro acc; rw [List.foldl_cons, ih]; simp [strOf]

theorem app_some {α : Type} {bytes : Nat} {l l2 r : List α} (h : app bytes l l2 = some r) : (l.length + l2.length) * bytes ≤ 140737488355328 ∧ r = l ++ l2 := by
  unfold app at h
  split at h
  · rename_i hb; cases h; exact ⟨hb, rfl⟩
  · cases h
theorem rowInt {ik : IntKind} {F : Frz} : ∀ {l : List Int} {xs : List Value}, RowR (Rp.int ik) F xs l → xs = l.map (Value.int ik)
  | [], _, h => by simp only [RowR] at h; simp [h]
  | x :: l, _, ⟨cs, ys, h1, h2, h3⟩ => by
    have h4 : cs = [.int ik x] := h2
    subst h4; rw [h1, rowInt h3]; rfl

section
variable {P : Program} {Q : Exit → Act → World → Prop} {n : Nat} {env : Env} {w : World}
variable {opr : Array Oper} {rest : List Oper} {d : Nat} {g : Option (Nat × Bool)} {ty : TypeId} {pos : String} {es : Array Edge}
variable {F0 F : Frz} {w0 : World} {X : List Nat} {O : List OE}

/-- append of what lies in another row of the call's own -/
theorem r_append {x y : Operand} {t e : TypeId} {q bytes : Nat} (hA : AppIs P t e q bytes) (hg : isOn opr env g = true) (hn : Nat.blt d n = true) (h : HS F0 w0 X F O w)
    {i j m c m2 c2 b N : Nat} {a : Option Addr} {xs news : List Value} (hx : opv env x = some (.slice a m c)) (hy : opv env y = some (.slice (some ⟨b, 0, none⟩) m2 c2))
    (hi : O[i]? = some (.row e q a m c xs)) (hj : O[j]? = some (.row e q (some ⟨b, 0, none⟩) m2 c2 news)) (h1 : ∀ u ∈ news, u.oneCell' = true) (hb : (m + m2) * bytes ≤ 140737488355328) (hN : m + m2 = N)
    (k : ∀ a' c' w', HS F0 w0 X F (O.set i (.row e q a' N c' (xs ++ news))) w' → RW P opr Q rest n ((d, .slice a' N c') :: env) w') :
    RW P opr Q (⟨some d, .call ⟨.builtin .append, #[x, y], #[t, t]⟩, ty, pos, es, g⟩ :: rest) n env w := by
  have hown := h.get hj
  obtain ⟨a', c', w', hr, hs⟩ := run_app (tr := ty) hA h hi (ad := ⟨b, 0, none⟩) (m2 := m2) (c2 := c2) (news := news) hown.1 (World.ownsRow.cells hown rfl) h1 hb
  subst hN
  exact r_valw rfl (by simpa using hn) hg (fun a ha => by simp [execOp, resolve, invoke, builtin, ha.op hx, ha.op hy, hr]) (k a' c' w' hs)

theorem r_lenS {xt e : TypeId} {x : Operand} {a : Option Addr} {m c N : Nat} (hN : N = m) (hu : P.underlying xt = some (.slice e)) (hg : isOn opr env g = true) (hn : Nat.blt d n = true) (hx : opv env x = some (.slice a m c))
    (kk : RW P opr Q rest n ((d, .int .i64 N) :: env) w) : RW P opr Q (⟨some d, .call ⟨.builtin .len, #[x], #[xt]⟩, ty, pos, es, g⟩ :: rest) n env w :=
  r_val rfl (by simpa using hn) hg (fun a ha => by subst hN; simp [execOp, resolve, invoke, builtin, ha.op hx, Builtin.len_, underlying, hu, goInt]) kk

theorem run_indexAt {t e : TypeId} {q : Nat} (hu : P.underlying t = some (.slice e)) (hS : SizeIs P e q) {b o m c : Nat} {ik : IntKind} {i : Int} (h0 : 0 ≤ i) (h1 : i < m) :
    (Instr.indexAt t (.slice (some ⟨b, o, none⟩) m c) (.int ik i)).run P w = .ok (.pointer (some ⟨b, o + i.toNat * q, none⟩)) w := by
  simp [Instr.indexAt, asIntOf, underlying, hu, h0, h1, hS w, addr_add]

/-- the address of an element of a frozen slice -/
theorem r_findex {α : Type} {r : Rp α} {t e : TypeId} {x y : Operand} {a : Option Addr} {m c : Nat} {ik : IntKind} {i : Int} {xs : List α} {v : α} (hu : P.underlying t = some (.slice e)) (hS : SizeIs P e r.k)
    (hg : isOn opr env g = true) (hn : Nat.blt d n = true) (hx : opv env x = some (.slice a m c)) (hy : opv env y = some (.int ik i)) (hs : SlR r F a m c xs) (hi : ix xs i = some v)
    (k : ∀ b o cs, FC F b o cs → r.R F cs v → RW P opr Q rest n ((d, .pointer (some ⟨b, o, none⟩)) :: env) w) : RW P opr Q (⟨some d, .indexAddr t x y, ty, pos, es, g⟩ :: rest) n env w := by
  unfold ix at hi
  split at hi
  · rename_i h0
    obtain ⟨hlt, _⟩ := List.getElem?_eq_some_iff.1 hi
    obtain ⟨rfl, _, _, h4⟩ := hs
    rcases h4 with rfl | ⟨b, o, l, rfl, hf, hr⟩
    · simp at hlt
    · obtain ⟨cs, hcs, hpre⟩ := RowR.get hr hi
      refine r_val rfl (by simpa using hn) hg (fun a ha => ?_) (k b (o + i.toNat * r.k) cs ?_ hcs)
      · simp [execOp, ha.op hx, ha.op hy, run_indexAt hu hS h0 (show i < (xs.length : Int) by omega)]
      · obtain ⟨cells, cty, fz, h5, h6⟩ := hf
        refine ⟨cells, cty, fz, h5, hpre.trans ?_⟩
        rw [← List.drop_drop]
        exact prefix_drop h6 _
  · cases hi

/-- a part of a frozen slice -/
theorem SlR.part {α : Type} {r : Rp α} {a : Option Addr} {m c p q : Nat} {xs : List α} (hs : SlR r F a m c xs) (h1 : p ≤ q) (h2 : q ≤ xs.length) :
    SlR r F (if c = p then a else a.map (·.add (p * r.k))) (q - p) (c - p) ((xs.take q).drop p) := by
  obtain ⟨_, h3, h4, h5⟩ := hs
  refine ⟨by simp; omega, by simp; omega, by omega, ?_⟩
  rcases h5 with rfl | ⟨b, o, l, rfl, hf, hr⟩
  · left; simp
  · by_cases hp : p = q
    · left; subst hp; simp
    · right
      have hc : c ≠ p := by omega
      refine ⟨b, o + p * r.k, (l.take (q * r.k)).drop (p * r.k), by simp [hc, addr_add], ?_, (hr.take q).drop p⟩
      obtain ⟨cells, cty, fz, h6, h7⟩ := hf
      refine ⟨cells, cty, fz, h6, ?_⟩
      rw [← List.drop_drop]
      exact prefix_drop ((List.take_prefix _ _).trans h7) _

theorem run_fsl {α : Type} {r : Rp α} {t e : TypeId} (hu : P.underlying t = some (.slice e)) (hS : SizeIs P e r.k) {a : Option Addr} {m c : Nat} {xs ys : List α} {lo hi : Int} (hs : SlR r F a m c xs) (hl : lsl xs lo hi = some ys) {lo' hi' : Option Value}
    (ha : lo' = some (.int .i64 lo) ∨ lo' = none ∧ lo = 0) (hb : hi' = some (.int .i64 hi) ∨ hi' = none ∧ hi = xs.length) :
    ∃ a' m' c', (Instr.sliceAt t (.slice a m c) lo' hi' none).run P w = .ok (.slice a' m' c') w ∧ SlR r F a' m' c' ys := by
  have hm := hs.1
  subst hm
  unfold lsl at hl
  split at hl
  · rename_i hc
    cases hl
    obtain ⟨h0, h1, h2⟩ := hc
    obtain ⟨p, rfl⟩ := Int.eq_ofNat_of_zero_le h0
    obtain ⟨q, rfl⟩ := Int.eq_ofNat_of_zero_le (show 0 ≤ hi by omega)
    have h1' : p ≤ q := by omega
    have h2' : q ≤ xs.length := by omega
    have h3 := hs.2.1
    have e1 : ∀ (c : BoundsCode) (y : Nat), q ≤ y → (Instr.sliceBound (.int .i64 (q : Int)) y c).run P w = .ok q w := fun c y hy => by simp [Instr.sliceBound, asIntOf, hy]
    have e2 : ∀ (c : BoundsCode) (y : Nat), p ≤ y → (Instr.sliceBound (.int .i64 (p : Int)) y c).run P w = .ok p w := fun c y hy => by simp [Instr.sliceBound, asIntOf, hy]
    have hq : q ≤ c := by omega
    refine ⟨_, _, _, ?_, by simpa using hs.part h1' h2'⟩
    rcases ha with rfl | ⟨rfl, hp⟩ <;> rcases hb with rfl | ⟨rfl, hqq⟩
    · simp [Instr.sliceAt, Instr.slice, Instr.sliceBounds, underlying, hu, e1, e2, h1', hq, hS w]
    · obtain rfl : q = xs.length := by omega
      simp [Instr.sliceAt, Instr.slice, Instr.sliceBounds, underlying, hu, e2, h1', hS w]
    · obtain rfl : p = 0 := by omega
      simp [Instr.sliceAt, Instr.slice, Instr.sliceBounds, underlying, hu, e1, hq, hS w]
    · obtain rfl : p = 0 := by omega
      obtain rfl : q = xs.length := by omega
      simp [Instr.sliceAt, Instr.slice, Instr.sliceBounds, underlying, hu, hS w]
  · cases hl

theorem r_fsl_lh {α : Type} {r : Rp α} {t e : TypeId} {x y z : Operand} {a : Option Addr} {m c : Nat} {xs ys : List α} {lo hi : Int} (hu : P.underlying t = some (.slice e)) (hS : SizeIs P e r.k) (hg : isOn opr env g = true) (hn : Nat.blt d n = true)
    (hx : opv env x = some (.slice a m c)) (hy : opv env y = some (.int .i64 lo)) (hz : opv env z = some (.int .i64 hi)) (hs : SlR r F a m c xs) (hl : lsl xs lo hi = some ys)
    (k : ∀ a' m' c', SlR r F a' m' c' ys → RW P opr Q rest n ((d, .slice a' m' c') :: env) w) : RW P opr Q (⟨some d, .slice t x (some y) (some z) none, ty, pos, es, g⟩ :: rest) n env w := by
  obtain ⟨a', m', c', hr, hs'⟩ := run_fsl (w := w) hu hS hs hl (.inl rfl) (.inl rfl)
  exact r_val rfl (by simpa using hn) hg (fun a ha => by simp [execOp, ha.op hx, ha.op hy, ha.op hz, hr]) (k a' m' c' hs')
theorem r_fsl_l {α : Type} {r : Rp α} {t e : TypeId} {x y : Operand} {a : Option Addr} {m c : Nat} {xs ys : List α} {lo : Int} (hu : P.underlying t = some (.slice e)) (hS : SizeIs P e r.k) (hg : isOn opr env g = true) (hn : Nat.blt d n = true)
    (hx : opv env x = some (.slice a m c)) (hy : opv env y = some (.int .i64 lo)) (hs : SlR r F a m c xs) (hl : lsl xs lo xs.length = some ys)
    (k : ∀ a' m' c', SlR r F a' m' c' ys → RW P opr Q rest n ((d, .slice a' m' c') :: env) w) : RW P opr Q (⟨some d, .slice t x (some y) none none, ty, pos, es, g⟩ :: rest) n env w := by
  obtain ⟨a', m', c', hr, hs'⟩ := run_fsl (w := w) hu hS hs hl (.inl rfl) (.inr ⟨rfl, rfl⟩)
  exact r_val rfl (by simpa using hn) hg (fun a ha => by simp [execOp, ha.op hx, ha.op hy, hr]) (k a' m' c' hs')
theorem r_fsl_h {α : Type} {r : Rp α} {t e : TypeId} {x z : Operand} {a : Option Addr} {m c : Nat} {xs ys : List α} {hi : Int} (hu : P.underlying t = some (.slice e)) (hS : SizeIs P e r.k) (hg : isOn opr env g = true) (hn : Nat.blt d n = true)
    (hx : opv env x = some (.slice a m c)) (hz : opv env z = some (.int .i64 hi)) (hs : SlR r F a m c xs) (hl : lsl xs 0 hi = some ys)
    (k : ∀ a' m' c', SlR r F a' m' c' ys → RW P opr Q rest n ((d, .slice a' m' c') :: env) w) : RW P opr Q (⟨some d, .slice t x none (some z) none, ty, pos, es, g⟩ :: rest) n env w := by
  obtain ⟨a', m', c', hr, hs'⟩ := run_fsl (w := w) hu hS hs hl (.inr ⟨rfl, rfl⟩) (.inl rfl)
  exact r_val rfl (by simpa using hn) hg (fun a ha => by simp [execOp, ha.op hx, ha.op hz, hr]) (k a' m' c' hs')

/-- a row of the call's own is frozen, and reads as a list -/
theorem freezeRow (h : HS F0 w0 [] F O w) {i : Nat} {e : TypeId} {q m c : Nat} {a : Option Addr} {xs : List Value} {α : Type} {r : Rp α} {ts : List α} (hi : O[i]? = some (.row e q a m c xs)) (hrn : RowN r F m xs ts) :
    ∃ F', F.le F' ∧ HS F0 w0 [] F' (O.eraseIdx i) w ∧ SlR r F' a m c ts := by
  obtain ⟨hm, hr⟩ := hrn
  subst hm
  obtain ⟨hlt, hget⟩ := List.getElem?_eq_some_iff.1 hi
  have hperm : HS F0 w0 [] F (.row e q a ts.length c xs :: O.eraseIdx i) w := by
    refine ⟨h.sat, h.le, h.new, fun x hx => ?_, fun x hx => ?_, ?_, h.os, h.tape, h.output, h.size, h.old⟩
    · rcases List.mem_cons.1 hx with rfl | hx
      · exact h.get hi
      · exact h.own x ((List.eraseIdx_sublist O i).subset hx)
    · rcases List.mem_cons.1 hx with rfl | hx
      · exact h.sep _ (List.mem_of_getElem? hi)
      · exact h.sep x ((List.eraseIdx_sublist O i).subset hx)
    · refine List.pairwise_cons.2 ⟨fun x hx b hb1 hb2 => ?_, h.dis.sublist (List.eraseIdx_sublist O i)⟩
      obtain ⟨j, hj, hne, hxj⟩ : ∃ j, ∃ hj : j < O.length, j ≠ i ∧ O[j] = x := by
        obtain ⟨p, hp, rfl⟩ := List.mem_iff_getElem.1 hx
        rw [List.getElem_eraseIdx]
        have hp' : p < O.length - 1 := by rw [List.length_eraseIdx] at hp; simp [hlt] at hp; exact hp
        split
        · exact ⟨p, by omega, by omega, rfl⟩
        · exact ⟨p + 1, by omega, by omega, rfl⟩
      have hp := List.pairwise_iff_getElem.1 h.dis
      rcases Nat.lt_or_ge j i with h1 | h1
      · exact hp j i hj hlt h1 b (hxj ▸ hb2) (hget ▸ hb1)
      · exact hp i j hlt hj (by omega) b (hget ▸ hb1) (hxj ▸ hb2)
  have hown := h.get hi
  rcases hown.2 with ⟨he, h0⟩ | ⟨gb, cap, cur, he, _, hgb, hnc, hcm, hcs, htake⟩
  · simp only [Value.slice.injEq] at he
    obtain ⟨rfl, h1, rfl⟩ := he
    have hts : ts = [] := List.eq_nil_of_length_eq_zero h0
    subst hts
    exact ⟨F, Frz.refl F, hperm.sub (List.sublist_cons_self _ _), SlR.nil r F⟩
  · simp only [Value.slice.injEq] at he
    obtain ⟨rfl, _, e3⟩ := he
    obtain rfl : cap = c := e3.symm
    have hsep := hperm.sep _ (List.mem_cons_self ..) gb rfl
    have hge : w0.heap.size ≤ gb := by
      rcases hsep.2 with h3 | h3
      · exact h3
      · cases h3
    have hle : F.le (fun k => if k = gb then some (.cells cur e (0, 0)) else F k) := freeze_le hsep.1
    refine ⟨_, hle, hperm.freeze rfl rfl hge hgb, rfl, hnc, hcm, .inr ⟨gb, 0, xs, rfl, ⟨cur, e, (0, 0), by simp, ?_⟩, hr.mono hle⟩⟩
    rw [← htake]
    exact List.take_prefix _ _

/-- a call that makes memory -/
theorem r_callG {c : Operand} {l : List Operand} {ts : Array TypeId} {f : FuncId} {first cap : Array Value} {vl : List Value} {R : Value → Frz → List OE → Prop} (he : Ent P f) (hg : isOn opr env g = true) (hn : Nat.blt d n = true)
    (hc : opv env c = some (.func (.func f) first cap)) (hl : opvs env l = some vl) (h : HS F0 w0 X F O w)
    (hC : Calls P f (first ++ vl.toArray ++ cap) w fun e w' => ∃ v F' O', e = .returned v ∧ HS F w [] F' O' w' ∧ R v F' O')
    (k : ∀ v F' O' w', F.le F' → HS F0 w0 X F' (O' ++ O) w' → R v F' O' → RW P opr Q rest n ((d, v) :: env) w') : RW P opr Q (⟨some d, .call ⟨.value c, l.toArray, ts⟩, ty, pos, es, g⟩ :: rest) n env w :=
  r_call (R := fun v w' => ∃ F' O', HS F w [] F' O' w' ∧ R v F' O') he hg hn hc hl (hC.mono fun _ _ ⟨v, F', O', h1, h2, h3⟩ => ⟨v, h1, F', O', h2, h3⟩)
    (fun v w' ⟨F', O', h2, h3⟩ => k v F' O' w' h2.le (h.call h2) h3)

theorem r_callG0 {c : Operand} {l : List Operand} {ts : Array TypeId} {f : FuncId} {vl : List Value} {R : Value → Frz → List OE → Prop} (he : Ent P f) (hg : isOn opr env g = true) (hn : Nat.blt d n = true)
    (hc : opv env c = some (.func (.func f) #[] #[])) (hl : opvs env l = some vl) (h : HS F0 w0 X F O w)
    (hC : Calls P f vl.toArray w fun e w' => ∃ v F' O', e = .returned v ∧ HS F w [] F' O' w' ∧ R v F' O')
    (k : ∀ v F' O' w', F.le F' → HS F0 w0 X F' (O' ++ O) w' → R v F' O' → RW P opr Q rest n ((d, v) :: env) w') : RW P opr Q (⟨some d, .call ⟨.value c, l.toArray, ts⟩, ty, pos, es, g⟩ :: rest) n env w :=
  r_callG he hg hn hc hl h (by simpa using hC) k

/-- an array of integers, asked at an index -/
theorem r_aidx {xt e : TypeId} {len : Nat} {x y : Operand} {cs : Array Value} {l : List Int} {ik jk : IntKind} {i c : Int} (hu : P.underlying xt = some (.array len e)) (hA : IsAgg P e false) (hS : SizeIs P e 1) (hg : isOn opr env g = true) (hn : Nat.blt d n = true)
    (hx : opv env x = some (.agg cs)) (hy : opv env y = some (.int ik i)) (hcs : cs = (l.map (Value.int jk)).toArray) (hlen : l.length = len) (hc : ix l i = some c)
    (k : RW P opr Q rest n ((d, .int jk c) :: env) w) : RW P opr Q (⟨some d, .index xt x y, ty, pos, es, g⟩ :: rest) n env w :=
  r_val rfl (by simpa using hn) hg (fun a ha => by
    unfold ix at hc
    split at hc
    · rename_i h0
      obtain ⟨hlt, hget⟩ := List.getElem?_eq_some_iff.1 hc
      have e1 : i < (len : Int) := by omega
      have e2 : cs[i.toNat]? = some (.int jk c) := by subst hcs; simp [hc]
      simp [execOp, ha.op hx, ha.op hy, Instr.index, asIntOf, underlying, hu, h0, e1, hS w, part, hA w, e2]
    · cases hc) k

/-- two structs, compared -/
theorem r_aggeql {xt yt : TypeId} {x y : Operand} {p q : Array Value} {b : Bool} (hm : P.eqGuardType P.depth xt = false) (hg : isOn opr env g = true) (hn : Nat.blt d n = true) (hx : opv env x = some (.agg p)) (hy : opv env y = some (.agg q))
    (he : ∀ w, (Op.equalIn 10000 xt (.agg p) (.agg q)).run P w = .ok b w) (k : RW P opr Q rest n ((d, .bool b) :: env) w) : RW P opr Q (⟨some d, .binOp .eql xt x y yt, ty, pos, es, g⟩ :: rest) n env w :=
  r_val rfl (by simpa using hn) hg (fun a ha => by simp [execOp, ha.op hx, ha.op hy, run_eqGuard_agg _ _ _ _ _ _ _ hm, run_eql_struct, he w]) k
theorem r_aggneq {xt yt : TypeId} {x y : Operand} {p q : Array Value} {b : Bool} (hm : P.eqGuardType P.depth xt = false) (hg : isOn opr env g = true) (hn : Nat.blt d n = true) (hx : opv env x = some (.agg p)) (hy : opv env y = some (.agg q))
    (he : ∀ w, (Op.equalIn 10000 xt (.agg p) (.agg q)).run P w = .ok b w) (k : RW P opr Q rest n ((d, .bool (!b)) :: env) w) : RW P opr Q (⟨some d, .binOp .neq xt x y yt, ty, pos, es, g⟩ :: rest) n env w :=
  r_val rfl (by simpa using hn) hg (fun a ha => by simp [execOp, ha.op hx, ha.op hy, run_eqGuard_agg _ _ _ _ _ _ _ hm, run_neq_struct, he w]) k

/-- bytes of the call's own as a string -/
theorem r_strOf {s t e : TypeId} {x : Operand} {a : Option Addr} {m c i : Nat} {l : List Int} {xs : List Value} (hs : P.underlying s = some (.slice e)) (he : P.underlying e = some (.int .u8)) (ht : P.underlying t = some .string) (hg : isOn opr env g = true) (hn : Nat.blt d n = true) (h : HS F0 w0 X F O w)
    (hx : opv env x = some (.slice a m c)) (hi : O[i]? = some (.row e 1 a m c xs)) (hl : xs = l.map (Value.int .u8)) (k : RW P opr Q rest n ((d, vs (strOf l)) :: env) w) : RW P opr Q (⟨some d, .convert s t x, ty, pos, es, g⟩ :: rest) n env w :=
  r_val rfl (by simpa using hn) hg (fun a' ha => by
    have hown := h.get hi
    have hr : (Conv.bytesToString (.slice a m c)).run P w = .ok (vs (strOf l)) w := by
      rcases hown.2 with ⟨he, h0⟩ | ⟨gb, cap, cur, he, _⟩
      · simp only [Value.slice.injEq] at he
        obtain ⟨rfl, rfl, rfl⟩ := he
        have : xs = [] := List.eq_nil_of_length_eq_zero (by simpa using hown.1)
        have hl2 : l = [] := by cases l <;> simp_all
        subst hl2
        rfl
      · simp only [Value.slice.injEq] at he
        obtain ⟨rfl, _, _⟩ := he
        have hload := run_loadCells_list (P := P) w ⟨gb, 0, none⟩ xs (World.ownsRow.cells hown rfl)
        rw [hown.1, Nat.mul_one, hl] at hload
        rw [run_bytesToString w _ m c l hload]
        congr 1
        rw [vs_of, fold_push]
        simp
    simp [execOp, ha.op hx, convert, underlying, hs, ht, he, hr]) k

/-- results that lie in memory -/
theorem run_cellA (h : HS F0 w0 X F O w) {T : TypeId} {m b i : Nat} {cs : List Value} (hA : IsAgg P T true) (hS : SizeIs P T m) (hm : cs.length = m) (hi : O[i]? = some (.box b T cs)) :
    (loadVar T ⟨b, 0, none⟩).run P w = .ok (.agg cs.toArray) w := by
  subst hm
  have e := run_loadCells_list (P := P) w ⟨b, 0, none⟩ cs (fun j v hj => by rw [addr_add, Nat.zero_add]; exact box_cell h hi hj)
  simp [loadVar, hA w, hS w, e]
theorem b_retC {fn : Func} {R : Ending → World → Prop} {T : TypeId} {m b i c : Nat} {cs : List Value} (hf : fn.results = #[.cell c T]) (hA : IsAgg P T true) (hS : SizeIs P T m) (hm : cs.length = m) (h : HS F0 w0 X F O w) (hc : env.lookup c = some (.pointer (some ⟨b, 0, none⟩))) (hi : O[i]? = some (.box b T cs))
    (hR : R (.returned (.agg cs.toArray)) w) : QW (bodyPost P fn R) .ret n env w :=
  b_ret (fun a ha => by simp [results, hf, ha.get _ _ hc, asAddr, run_cellA (P := P) h hA hS hm hi]) hR
theorem b_retC2 {fn : Func} {R : Ending → World → Prop} {T : TypeId} {m b i c t2 : Nat} {cs : List Value} {v2 : Value} (hf : fn.results = #[.cell c T, .tmp t2]) (hA : IsAgg P T true) (hS : SizeIs P T m) (hm : cs.length = m) (h : HS F0 w0 X F O w) (hc : env.lookup c = some (.pointer (some ⟨b, 0, none⟩))) (hi : O[i]? = some (.box b T cs))
    (h2 : env.lookup t2 = some v2) (hR : R (.returned (.tuple #[.agg cs.toArray, v2])) w) : QW (bodyPost P fn R) .ret n env w :=
  b_ret (fun a ha => by simp [results, hf, ha.get _ _ hc, ha.get _ _ h2, asAddr, run_cellA (P := P) h hA hS hm hi]) hR
theorem b_retC3 {fn : Func} {R : Ending → World → Prop} {T : TypeId} {m b i c t2 t3 : Nat} {cs : List Value} {v2 v3 : Value} (hf : fn.results = #[.cell c T, .tmp t2, .tmp t3]) (hA : IsAgg P T true) (hS : SizeIs P T m) (hm : cs.length = m) (h : HS F0 w0 X F O w) (hc : env.lookup c = some (.pointer (some ⟨b, 0, none⟩))) (hi : O[i]? = some (.box b T cs))
    (h2 : env.lookup t2 = some v2) (h3 : env.lookup t3 = some v3) (hR : R (.returned (.tuple #[.agg cs.toArray, v2, v3])) w) : QW (bodyPost P fn R) .ret n env w :=
  b_ret (fun a ha => by simp [results, hf, ha.get _ _ hc, ha.get _ _ h2, ha.get _ _ h3, asAddr, run_cellA (P := P) h hA hS hm hi]) hR
end
end Go.Proofs.YtpihabofmnnbbaaDoor.Rt
