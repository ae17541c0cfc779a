/-
  THE RUNTIME OF THE MIRRORS, part 3: memory. What is frozen (F) never turns again; what the call owns (O) is listed, block by block; all else stands as it stood when the call began.
-/
import Derived.Test.YtpihabofmnnbbaaDoorRt2
import Derived.Below
namespace Go.Proofs.YtpihabofmnnbbaaDoor.Rt
open Go Go.RowKit

abbrev Frz := Nat → Option Obj
def Frz.le (F F' : Frz) : Prop := ∀ b o, F b = some o → F' b = some o
theorem Frz.refl (F : Frz) : F.le F := fun _ _ h => h
theorem Frz.le.trans {F F' F'' : Frz} (h : F.le F') (h' : F'.le F'') : F.le F'' := fun b o e => h' b o (h b o e)
def Sat (F : Frz) (w : World) : Prop := ∀ b o, F b = some o → w.heap[b]? = some o

inductive OE where
  | box (b : Nat) (t : TypeId) (cs : List Value)
  | row (e : TypeId) (k : Nat) (a : Option Addr) (n c : Nat) (xs : List Value)
  | mp (b : Nat) (es : List MapEntry) (clock : Nat)
  | win (e : TypeId) (k : Nat) (a : Option Addr) (m c : Nat) (pre xs post : List Value)
  | it (b : Nat) (o : Obj)
/-- a map's entries bear different stamps, each elder than its clock -/
def StampOk (es : List MapEntry) (clock : Nat) : Prop := (es.map (·.born)).Nodup ∧ ∀ e, e ∈ es → e.born < clock
def OE.ok (w : World) : OE → Prop
  | .box b t cs => w.heap[b]? = some (.cells cs.toArray t (0, 0))
  | .row e k a n c xs => w.ownsRow 0 e k (.slice a n c) n xs
  | .mp b es clock => w.heap[b]? = some (.map es.toArray clock) ∧ StampOk es clock
  | .it b o => w.heap[b]? = some o
  | .win e k a m c pre xs post => xs.length = m * k ∧ m ≤ c ∧ c ≤ maxLen ∧ (m = 0 ∨ ∃ b, a = some ⟨b, pre.length, none⟩ ∧ w.heap[b]? = some (.cells (pre ++ xs ++ post).toArray e (0, 0)))
def OE.blk : OE → Option Nat
  | .box b _ _ => some b
  | .row _ _ a n c _ => (Value.slice a n c).ownBlock
  | .mp b _ _ => some b
  | .it b _ => some b
  | .win _ _ a m _ _ _ _ => if m = 0 then none else a.map (·.block)

theorem OE.lt {w : World} {e : OE} (h : e.ok w) {b : Nat} (hb : e.blk = some b) : b < w.heap.size := by
  cases e with
  | box b' t cs => simp only [OE.blk, Option.some.injEq] at hb; subst hb; exact (Array.getElem?_eq_some_iff.1 h).1
  | row e k a n c xs => exact (World.ownsRow.lt h b hb).2
  | mp b' es clock => simp only [OE.blk, Option.some.injEq] at hb; subst hb; exact (Array.getElem?_eq_some_iff.1 h.1).1
  | it b' o => simp only [OE.blk, Option.some.injEq] at hb; subst hb; exact (Array.getElem?_eq_some_iff.1 h).1
  | win e k a m c pre xs post =>
    simp only [OE.blk] at hb
    split at hb
    · cases hb
    · rename_i hm
      rcases h.2.2.2 with h0 | ⟨b', rfl, h1⟩
      · exact absurd h0 hm
      · simp only [Option.map_some, Option.some.injEq] at hb
        subst hb
        exact (Array.getElem?_eq_some_iff.1 h1).1

theorem OE.kept {w w' : World} {e : OE} {row : Option Nat} (h : e.ok w) (hg : w.grownBy w' row) (hne : ∀ b, e.blk = some b → some b ≠ row) : e.ok w' := by
  cases e with
  | box b t cs => show w'.heap[b]? = _; rw [hg.block b (OE.lt h rfl) (hne b rfl)]; exact h
  | row e k a n c xs =>
    refine World.ownsRow.kept h hg ?_
    cases hv : (Value.slice a n c).ownBlock with
    | none => exact .inl rfl
    | some b => exact .inr (hne b hv)
  | mp b es clock => refine ⟨?_, h.2⟩; show w'.heap[b]? = _; rw [hg.block b (OE.lt h rfl) (hne b rfl)]; exact h.1
  | it b o => show w'.heap[b]? = _; rw [hg.block b (OE.lt h rfl) (hne b rfl)]; exact h
  | win e k a m c pre xs post =>
    refine ⟨h.1, h.2.1, h.2.2.1, ?_⟩
    rcases h.2.2.2 with h0 | ⟨b, rfl, h1⟩
    · exact .inl h0
    · by_cases hm : m = 0
      · exact .inl hm
      · refine .inr ⟨b, rfl, ?_⟩
        have hb : (OE.win e k (some ⟨b, pre.length, none⟩) m c pre xs post).blk = some b := by simp [OE.blk, hm]
        rw [hg.block b (OE.lt h hb) (hne b hb)]; exact h1

structure HS (F0 : Frz) (w0 : World) (X : List Nat) (F : Frz) (O : List OE) (w : World) : Prop where
  sat : Sat F w
  le : F0.le F
  new : ∀ b, F b ≠ none → F0 b ≠ none ∨ w0.heap.size ≤ b
  own : ∀ e ∈ O, e.ok w
  sep : ∀ e ∈ O, ∀ b, e.blk = some b → F b = none ∧ (w0.heap.size ≤ b ∨ b ∈ X)
  dis : O.Pairwise fun e e' => ∀ b, e.blk = some b → e'.blk ≠ some b
  os : w.os = w0.os
  tape : w.tape = w0.tape
  output : w.output = w0.output
  size : w0.heap.size ≤ w.heap.size
  old : ∀ b, b < w0.heap.size → b ∉ X → w.heap[b]? = w0.heap[b]?

theorem HS.init {F : Frz} {w : World} (h : Sat F w) : HS F w [] F [] w :=
  ⟨h, Frz.refl F, fun _ h => .inl h, by simp, by simp, List.Pairwise.nil, rfl, rfl, rfl, Nat.le_refl _, fun _ _ _ => rfl⟩

section
variable {F0 F : Frz} {w0 w : World} {X : List Nat} {O : List OE}

theorem HS.below (h : HS F0 w0 [] F O w) : Below w0.heap.size w0 w := ⟨h.os, h.tape, h.output, h.size, fun k hk => h.old k hk (by simp)⟩

theorem Sat.lt (h : Sat F w) {b : Nat} (hb : F b ≠ none) : b < w.heap.size := by
  cases hf : F b with
  | none => exact absurd hf hb
  | some o => exact (Array.getElem?_eq_some_iff.1 (h b o hf)).1

/-- one entry is turned; new blocks may have come -/
theorem HS.upd (h : HS F0 w0 X F O w) {i : Nat} {e e' : OE} (hi : O[i]? = some e) {w' : World} (hg : w.grownBy w' e.blk) (he : e'.ok w')
    (hb : ∀ b, e'.blk = some b → e.blk = some b ∨ w.heap.size ≤ b) : HS F0 w0 X F (O.set i e') w' := by
  obtain ⟨hlt, hget⟩ := List.getElem?_eq_some_iff.1 hi
  have hmem : e ∈ O := hget ▸ List.getElem_mem hlt
  have hsep := h.sep e hmem
  have hdis : ∀ j (hj : j < O.length), j ≠ i → ∀ b, O[j].blk = some b → e.blk ≠ some b := by
    intro j hj hne b hb1 hb2
    have hp := List.pairwise_iff_getElem.1 h.dis
    rcases Nat.lt_or_ge j i with hlt' | hge
    · exact hp j i hj hlt hlt' b hb1 (hget ▸ hb2)
    · exact hp i j hlt hj (by omega) b (hget ▸ hb2) hb1
  have hnew : ∀ j (hj : j < O.length), j ≠ i → ∀ b, O[j].blk = some b → e'.blk ≠ some b := by
    intro j hj hne b hb1 hb2
    rcases hb b hb2 with h1 | h1
    · exact hdis j hj hne b hb1 h1
    · have := OE.lt (h.own _ (List.getElem_mem hj)) hb1; omega
  refine ⟨fun b o hf => ?_, h.le, h.new, fun x hx => ?_, fun x hx b hb' => ?_, ?_, hg.os.trans h.os, hg.tape.trans h.tape, hg.output.trans h.output, Nat.le_trans h.size hg.size, fun b hb' hx => ?_⟩
  · rw [hg.block b (h.sat.lt (by simp [hf])) (fun e1 => by have := (hsep b e1.symm).1; simp [hf] at this)]; exact h.sat b o hf
  · obtain ⟨j, hj, rfl⟩ := List.mem_iff_getElem.1 hx
    rw [List.getElem_set]
    split
    · exact he
    · rename_i hne
      have hj' : j < O.length := by simpa using hj
      exact OE.kept (h.own _ (List.getElem_mem hj')) hg fun b hb1 hb2 => hdis j hj' (by omega) b hb1 hb2.symm
  · obtain ⟨j, hj, rfl⟩ := List.mem_iff_getElem.1 hx
    have hj' : j < O.length := by simpa using hj
    rw [List.getElem_set] at hb'
    split at hb'
    · rcases hb b hb' with h1 | h1
      · exact hsep b h1
      · refine ⟨?_, .inl (Nat.le_trans h.size h1)⟩
        cases hf : F b with
        | none => rfl
        | some o => have := h.sat.lt (b := b) (by simp [hf]); omega
    · exact h.sep _ (List.getElem_mem hj') b hb'
  · rw [List.pairwise_iff_getElem]
    intro p q hp hq hpq b hb1 hb2
    have hp' : p < O.length := by simpa using hp
    have hq' : q < O.length := by simpa using hq
    rw [List.getElem_set] at hb1 hb2
    split at hb1 <;> split at hb2
    · omega
    · exact hnew q hq' (by omega) b hb2 hb1
    · exact hnew p hp' (by omega) b hb1 hb2
    · exact List.pairwise_iff_getElem.1 h.dis p q hp' hq' hpq b hb1 hb2
  · rw [hg.block b (Nat.lt_of_lt_of_le hb' h.size) (fun e1 => ?_)]
    · exact h.old b hb' hx
    · rcases (hsep b e1.symm).2 with h1 | h1
      · omega
      · exact hx h1

/-- a new entry in new blocks -/
theorem HS.add (h : HS F0 w0 X F O w) {e' : OE} {w' : World} (hg : w.grownBy w' none) (he : e'.ok w')
    (hb : ∀ b, e'.blk = some b → w.heap.size ≤ b) : HS F0 w0 X F (e' :: O) w' := by
  refine ⟨fun b o hf => ?_, h.le, h.new, fun x hx => ?_, fun x hx b hb' => ?_, ?_, hg.os.trans h.os, hg.tape.trans h.tape, hg.output.trans h.output, Nat.le_trans h.size hg.size, fun b hb' hx => ?_⟩
  · rw [hg.block b (h.sat.lt (by simp [hf])) (by simp)]; exact h.sat b o hf
  · rcases List.mem_cons.1 hx with rfl | hx
    · exact he
    · exact OE.kept (h.own x hx) hg (by simp)
  · rcases List.mem_cons.1 hx with rfl | hx
    · refine ⟨?_, .inl (Nat.le_trans h.size (hb b hb'))⟩
      cases hf : F b with
      | none => rfl
      | some o => have := h.sat.lt (b := b) (by simp [hf]); have := hb b hb'; omega
    · exact h.sep x hx b hb'
  · refine List.pairwise_cons.2 ⟨fun x hx b hb1 hb2 => ?_, h.dis⟩
    have := OE.lt (h.own x hx) hb2; have := hb b hb1; omega
  · rw [hg.block b (Nat.lt_of_lt_of_le hb' h.size) (by simp)]; exact h.old b hb' hx

/-- new blocks, of which nothing is kept -/
theorem HS.grow (h : HS F0 w0 X F O w) {w' : World} (hg : w.grownBy w' none) : HS F0 w0 X F O w' := by
  have := h.add (e' := .row 0 0 none 0 0 []) hg (World.ownsRow_nil _ _ _ _) (by simp [OE.blk, Value.ownBlock])
  exact ⟨this.sat, this.le, this.new, fun e he => this.own e (List.mem_cons_of_mem _ he), fun e he => this.sep e (List.mem_cons_of_mem _ he), (List.pairwise_cons.1 this.dis).2, this.os, this.tape, this.output, this.size, this.old⟩

/-- some entries are forgotten -/
theorem HS.sub (h : HS F0 w0 X F O w) {O' : List OE} (hs : O'.Sublist O) : HS F0 w0 X F O' w :=
  ⟨h.sat, h.le, h.new, fun e he => h.own e (hs.subset he), fun e he => h.sep e (hs.subset he), h.dis.sublist hs, h.os, h.tape, h.output, h.size, h.old⟩

/-- the entries that are kept, by their places -/
def pick (O : List OE) : List Nat → List OE
  | [] => []
  | i :: r => match O[i]? with
    | some e => e :: pick O r
    | none => pick O r
theorem HS.pick (h : HS F0 w0 X F O w) (l : List Nat) (hl : l.Nodup) {O' : List OE} (hO : Rt.pick O l = O') : HS F0 w0 X F O' w := by
  subst hO
  have hmem : ∀ l, ∀ e ∈ Rt.pick O l, ∃ i ∈ l, O[i]? = some e := by
    intro l
    induction l with
    | nil => intro e he; simp [Rt.pick] at he
    | cons i r ih =>
      intro e he
      simp only [Rt.pick] at he
      split at he
      · rename_i e0 h0
        rcases List.mem_cons.1 he with rfl | he
        · exact ⟨i, by simp, h0⟩
        · obtain ⟨j, hj, hje⟩ := ih e he; exact ⟨j, by simp [hj], hje⟩
      · obtain ⟨j, hj, hje⟩ := ih e he; exact ⟨j, by simp [hj], hje⟩
  have hin : ∀ e ∈ Rt.pick O l, e ∈ O := fun e he => by
    obtain ⟨i, _, hi⟩ := hmem l e he
    exact List.mem_of_getElem? hi
  refine ⟨h.sat, h.le, h.new, fun e he => h.own e (hin e he), fun e he => h.sep e (hin e he), ?_, h.os, h.tape, h.output, h.size, h.old⟩
  clear hin
  induction l with
  | nil => exact .nil
  | cons i r ih =>
    simp only [Rt.pick]
    have hr := List.nodup_cons.1 hl
    split
    · rename_i e0 h0
      refine List.pairwise_cons.2 ⟨fun e he b hb1 hb2 => ?_, ih hr.2⟩
      obtain ⟨j, hj, hje⟩ := hmem r e he
      have hij : i ≠ j := fun e => hr.1 (e ▸ hj)
      obtain ⟨hi1, hi2⟩ := List.getElem?_eq_some_iff.1 h0
      obtain ⟨hj1, hj2⟩ := List.getElem?_eq_some_iff.1 hje
      have hp := List.pairwise_iff_getElem.1 h.dis
      rcases Nat.lt_or_ge i j with hlt | hge
      · exact hp i j hi1 hj1 hlt b (hi2 ▸ hb1) (hj2 ▸ hb2)
      · exact hp j i hj1 hi1 (by omega) b (hj2 ▸ hb2) (hi2 ▸ hb1)
    · exact ih hr.2

/-- a block of the call's own is frozen -/
theorem HS.freeze (h : HS F0 w0 X F O w) {e : OE} {r : List OE} (hO : O = e :: r) {b : Nat} (hb : e.blk = some b) (hX : w0.heap.size ≤ b) {o : Obj} (ho : w.heap[b]? = some o) :
    HS F0 w0 X (fun k => if k = b then some o else F k) r w := by
  subst hO
  have hs := (h.sep e (by simp) b hb).1
  have hd := List.pairwise_cons.1 h.dis
  refine ⟨fun k o' hk => ?_, fun k o' hk => ?_, fun k hk => ?_, fun x hx => h.own x (by simp [hx]), fun x hx k hk => ?_, hd.2, h.os, h.tape, h.output, h.size, h.old⟩
  · replace hk : (if k = b then some o else F k) = some o' := hk
    split at hk
    · rename_i e1; subst e1; cases hk; exact ho
    · exact h.sat k o' hk
  · have := h.le k o' hk
    show (if k = b then some o else F k) = some o'
    split
    · rename_i e1; subst e1; rw [hs] at this; cases this
    · exact this
  · by_cases e1 : k = b
    · subst e1; exact .inr hX
    · exact h.new k (by simpa [e1] using hk)
  · have h1 := h.sep x (by simp [hx]) k hk
    have : k ≠ b := fun e1 => hd.1 x hx b hb (e1 ▸ hk)
    exact ⟨by simpa [this] using h1.1, h1.2⟩

theorem freeze_le {b : Nat} {o : Obj} (hb : F b = none) : F.le (fun k => if k = b then some o else F k) := fun k o' hk => by
  show (if k = b then some o else F k) = some o'
  split
  · rename_i e1; subst e1; rw [hb] at hk; cases hk
  · exact hk

/-- behind a call: what the callee hands over comes ahead of the caller's own -/
theorem HS.call (h : HS F0 w0 X F O w) {F' : Frz} {O2 : List OE} {w' : World} (h2 : HS F w [] F' O2 w') : HS F0 w0 X F' (O2 ++ O) w' := by
  have hold : ∀ b, b < w.heap.size → w'.heap[b]? = w.heap[b]? := fun b hb => h2.old b hb (by simp)
  have hg : w.grownBy w' none := ⟨h2.os, h2.tape, h2.output, h2.size, fun k hk _ => hold k hk⟩
  refine ⟨h2.sat, h.le.trans h2.le, fun b hb => ?_, fun e he => ?_, fun e he b hb => ?_, ?_, h2.os.trans h.os, h2.tape.trans h.tape, h2.output.trans h.output, Nat.le_trans h.size h2.size, fun b hb hx => ?_⟩
  · rcases h2.new b hb with h1 | h1
    · exact h.new b h1
    · exact .inr (Nat.le_trans h.size h1)
  · rcases List.mem_append.1 he with he | he
    · exact h2.own e he
    · exact OE.kept (h.own e he) hg (by simp)
  · rcases List.mem_append.1 he with he | he
    · obtain ⟨h1, h3⟩ := h2.sep e he b hb
      refine ⟨h1, .inl ?_⟩
      rcases h3 with h3 | h3
      · exact Nat.le_trans h.size h3
      · cases h3
    · obtain ⟨h1, h3⟩ := h.sep e he b hb
      refine ⟨?_, h3⟩
      cases hf : F' b with
      | none => rfl
      | some o =>
        rcases h2.new b (by simp [hf]) with h4 | h4
        · exact absurd h1 h4
        · have := OE.lt (h.own e he) hb; omega
  · refine List.pairwise_append.2 ⟨h2.dis, h.dis, fun e he e' he' b hb1 hb2 => ?_⟩
    rcases (h2.sep e he b hb1).2 with h3 | h3
    · have := OE.lt (h.own e' he') hb2; omega
    · cases h3
  · rw [hold b (Nat.lt_of_lt_of_le hb h.size)]; exact h.old b hb hx
end

/- readings -/
structure Rp (α : Type) where
  k : Nat
  R : Frz → List Value → α → Prop
  len : ∀ {F cs x}, R F cs x → cs.length = k
  mono : ∀ {F F' : Frz} {cs x}, F.le F' → R F cs x → R F' cs x
  one : ∀ {F cs x}, R F cs x → ∀ u ∈ cs, u.oneCell' = true

def RowR {α : Type} (r : Rp α) (F : Frz) : List Value → List α → Prop
  | vs, [] => vs = []
  | vs, x :: xs => ∃ cs ys, vs = cs ++ ys ∧ r.R F cs x ∧ RowR r F ys xs

section
variable {α : Type} {r : Rp α} {F F' : Frz}
theorem RowR.mono (hF : F.le F') : ∀ {xs : List α} {l : List Value}, RowR r F l xs → RowR r F' l xs
  | [], _, h => h
  | _ :: _, _, ⟨cs, ys, h1, h2, h3⟩ => ⟨cs, ys, h1, r.mono hF h2, RowR.mono hF h3⟩
theorem RowR.len : ∀ {xs : List α} {l : List Value}, RowR r F l xs → l.length = xs.length * r.k
  | [], l, h => by simp only [RowR] at h; subst h; simp
  | x :: xs, _, ⟨cs, ys, h1, h2, h3⟩ => by subst h1; rw [List.length_append, r.len h2, RowR.len h3, List.length_cons, Nat.add_mul]; omega
theorem RowR.one : ∀ {xs : List α} {l : List Value}, RowR r F l xs → ∀ u ∈ l, u.oneCell' = true
  | [], l, h => by simp only [RowR] at h; subst h; simp
  | x :: xs, _, ⟨cs, ys, h1, h2, h3⟩ => by
    subst h1; intro u hu
    rcases List.mem_append.1 hu with hu | hu
    · exact r.one h2 u hu
    · exact RowR.one h3 u hu
theorem RowR.snoc {cs : List Value} {x : α} (hx : r.R F cs x) : ∀ {xs : List α} {l : List Value}, RowR r F l xs → RowR r F (l ++ cs) (xs ++ [x])
  | [], l, h => by simp only [RowR] at h; subst h; exact ⟨cs, [], by simp, hx, rfl⟩
  | y :: xs, _, ⟨c1, ys, h1, h2, h3⟩ => ⟨c1, ys ++ cs, by rw [h1, List.append_assoc], h2, RowR.snoc hx h3⟩
theorem RowR.append {l2 : List Value} {ys : List α} (h2 : RowR r F l2 ys) : ∀ {xs : List α} {l : List Value}, RowR r F l xs → RowR r F (l ++ l2) (xs ++ ys)
  | [], l, h => by simp only [RowR] at h; subst h; simpa using h2
  | y :: xs, _, ⟨c1, zs, h1, h3, h4⟩ => ⟨c1, zs ++ l2, by rw [h1, List.append_assoc], h3, RowR.append h2 h4⟩
theorem RowR.get : ∀ {xs : List α} {l : List Value} {i : Nat} {x : α}, RowR r F l xs → xs[i]? = some x → ∃ cs, r.R F cs x ∧ cs <+: l.drop (i * r.k)
  | [], _, _, _, _, h => by simp at h
  | y :: xs, _, 0, x, ⟨cs, ys, h1, h2, h3⟩, h => by simp at h; subst h; exact ⟨cs, h2, by simp [h1]⟩
  | y :: xs, _, i + 1, x, ⟨cs, ys, h1, h2, h3⟩, h => by
    obtain ⟨c, hc, hp⟩ := RowR.get h3 (by simpa using h)
    refine ⟨c, hc, ?_⟩
    rw [h1, show (i + 1) * r.k = cs.length + i * r.k from by rw [r.len h2, Nat.add_mul]; omega, List.drop_append, List.drop_of_length_le (by omega)]
    simpa using hp
theorem RowR.drop : ∀ {xs : List α} {l : List Value} (i : Nat), RowR r F l xs → RowR r F (l.drop (i * r.k)) (xs.drop i)
  | _, _, 0, h => by simpa using h
  | [], _, i + 1, h => by simp only [RowR] at h; subst h; simp [RowR]
  | y :: xs, _, i + 1, ⟨cs, ys, h1, h2, h3⟩ => by
    rw [h1, show (i + 1) * r.k = cs.length + i * r.k from by rw [r.len h2, Nat.add_mul]; omega, List.drop_append, List.drop_of_length_le (by omega)]
    simpa using RowR.drop i h3
theorem RowR.take : ∀ {xs : List α} {l : List Value} (i : Nat), RowR r F l xs → RowR r F (l.take (i * r.k)) (xs.take i)
  | _, _, 0, h => by simp [RowR]
  | [], _, i + 1, h => by simp only [RowR] at h; subst h; simp [RowR]
  | y :: xs, _, i + 1, ⟨cs, ys, h1, h2, h3⟩ => by
    refine ⟨cs, ys.take (i * r.k), ?_, h2, RowR.take i h3⟩
    rw [h1, show (i + 1) * r.k = cs.length + i * r.k from by rw [r.len h2, Nat.add_mul]; omega, List.take_append, List.take_of_length_le (by omega)]
    simp
end

/-- cells of a frozen block -/
def FC (F : Frz) (b o : Nat) (cs : List Value) : Prop := ∃ cells ty fz, F b = some (.cells cells ty fz) ∧ cs <+: cells.toList.drop o
theorem FC.mono {F F' : Frz} {b o : Nat} {cs : List Value} (hF : F.le F') (h : FC F b o cs) : FC F' b o cs := by
  obtain ⟨c, t, z, h1, h2⟩ := h; exact ⟨c, t, z, hF _ _ h1, h2⟩
theorem FC.cell {F : Frz} {b o : Nat} {cs : List Value} {w : World} (h : FC F b o cs) (hs : Sat F w) {j : Nat} {v : Value} (hj : cs[j]? = some v) : w.cell? ⟨b, o + j, none⟩ = some v := by
  obtain ⟨c, t, z, h1, ys, h2⟩ := h
  have h3 := hs b _ h1
  have : (c.toList.drop o)[j]? = some v := by rw [← h2, List.getElem?_append_left (List.getElem?_eq_some_iff.1 hj).1]; exact hj
  rw [List.getElem?_drop] at this
  simp [World.cell?, h3, ← Array.getElem?_toList, this]

/-- a frozen slice reads as a list -/
def SlR {α : Type} (r : Rp α) (F : Frz) (a : Option Addr) (m c : Nat) (xs : List α) : Prop :=
  xs.length = m ∧ xs.length ≤ c ∧ c ≤ maxLen ∧ (xs = [] ∨ ∃ b o l, a = some ⟨b, o, none⟩ ∧ FC F b o l ∧ RowR r F l xs)
theorem SlR.mono {α : Type} {r : Rp α} {F F' : Frz} {a : Option Addr} {m c : Nat} {xs : List α} (hF : F.le F') (h : SlR r F a m c xs) : SlR r F' a m c xs := by
  obtain ⟨h1, h2, h3, h4⟩ := h
  refine ⟨h1, h2, h3, h4.imp id ?_⟩
  rintro ⟨b, o, l, e1, e2, e3⟩
  exact ⟨b, o, l, e1, e2.mono hF, e3.mono hF⟩
theorem SlR.nil {α : Type} (r : Rp α) (F : Frz) : SlR r F none 0 0 [] := ⟨rfl, Nat.le_refl _, by simp [maxLen], .inl rfl⟩
theorem SlR.len {α : Type} {r : Rp α} {F : Frz} {a : Option Addr} {m c : Nat} {xs : List α} (h : SlR r F a m c xs) : xs.length = m := h.1
/-- a row of the call's own reads as a list of so many elements -/
def RowN {α : Type} (r : Rp α) (F : Frz) (m : Nat) (l : List Value) (xs : List α) : Prop := xs.length = m ∧ RowR r F l xs
theorem RowN.mono {α : Type} {r : Rp α} {F F' : Frz} {m : Nat} {l : List Value} {xs : List α} (hF : F.le F') (h : RowN r F m l xs) : RowN r F' m l xs := ⟨h.1, h.2.mono hF⟩
theorem RowN.len {α : Type} {r : Rp α} {F : Frz} {m : Nat} {l : List Value} {xs : List α} (h : RowN r F m l xs) : xs.length = m := h.1

end Go.Proofs.YtpihabofmnnbbaaDoor.Rt
