/-
  THE REFERENCE's Parse is the program's.
-/
import Derived.Test.YtibkigpmkkkaeaaGreatDoorTaZ
namespace Go.Proofs.YtibkigpmkkkaeaaGreatDoor.Ta
open Go Rt M
theorem RScan_ev {s : Rt.Bs} (hs : s.length ≤ 1000000) : Ev (fun n => ref06_Scan n s) ((Lx.scan s).1, ((Lx.scan s).2.1 : Int), (Lx.scan s).2.2) := ⟨2 * s.length + 14, fun n hn => Lx.rscan_eq hs (by omega)⟩
theorem Parse_2 {s : Rt.Bs} (hs : s.length ≤ 1000000) : T2 (fun p q => p = q ∧ Fit p.1.Fee) (fun n => tariff_Parse n s) (fun n => ref35_Parse n s) := by
  unfold tariff_Parse ref35_Parse
  refine T2.l (Scan_ev hs) (T2.r (RScan_ev hs) ?_)
  have hl : (Lx.scan s).1.length ≤ 1000000 := Nat.le_trans (scan_len s) hs
  generalize Lx.scan s = sc at hl ⊢
  obtain ⟨l, at_, e⟩ := sc
  dsimp only at hl ⊢
  refine T2.bif (fun _ => T2.pure ⟨rfl, Fit.leaf _ _ _⟩) (fun _ => ?_)
  refine T2.bind (need_2 hl (a := 0) (e := 0) (by omega) _) ?_
  rintro _ _ ⟨a1, e1, rfl, rfl, _, h1⟩
  refine T2.bind (one_2 hl h1 (by decide)) ?_
  rintro ⟨_, t⟩ ⟨_, t'⟩ ⟨⟨a2, e2, rfl, rfl, _, h2⟩, ht⟩
  obtain rfl : t = t' := ht
  obtain ⟨_, _, ⟨N3, E3⟩, ⟨M3, F3⟩, a3, e3, rfl, rfl, _, h3⟩ := need3_2 hl h2 (e := e2) [123] [102, 101, 101] [61]
  refine T2.l (a := Rd l a3 e3) ⟨N3, E3⟩ ?_
  have hr : ∀ {γ : Type} {g : Nat → Reader → Option γ} {r : γ}, Ev (fun n => g n (RR l a3 e3)) r → Ev (fun n => (ref35_Reader_need n (RR l a2 e2) [123]).bind fun v4 => (ref35_Reader_need n v4 [102, 101, 101]).bind fun v5 => (ref35_Reader_need n v5 [61]).bind fun v6 => g n v6) r := by
    intro γ g r hg
    obtain ⟨K, hK⟩ := hg
    refine ⟨max M3 K, fun n hn => ?_⟩
    have h5 := F3 n (by omega)
    have h6 := hK n (by omega)
    dsimp only at h5 h6 ⊢
    cases c1 : ref35_Reader_need n (RR l a2 e2) [123] with
    | none => rw [c1] at h5; cases h5
    | some v4 =>
      rw [c1, Option.bind_some] at h5
      rw [Option.bind_some]
      cases c2 : ref35_Reader_need n v4 [102, 101, 101] with
      | none => rw [c2] at h5; cases h5
      | some v5 =>
        rw [c2, Option.bind_some] at h5
        rw [Option.bind_some, h5, Option.bind_some]
        exact h6
  have step : ∀ {γ δ : Type} {Q : γ → δ → Prop} {f : Nat → Option γ} {g : Nat → Reader → Option δ}, T2 Q f (fun n => g n (RR l a3 e3)) → T2 Q f (fun n => (ref35_Reader_need n (RR l a2 e2) [123]).bind fun v4 => (ref35_Reader_need n v4 [102, 101, 101]).bind fun v5 => (ref35_Reader_need n v5 [61]).bind fun v6 => g n v6) := by
    rintro γ δ Q f g ⟨c, d, k1, k2, k3⟩
    exact ⟨c, d, k1, hr k2, k3⟩
  refine step ?_
  refine T2.bind (exprs_2 hl h3) ?_
  rintro ⟨_, x⟩ ⟨_, x'⟩ ⟨⟨a4, e4, rfl, rfl, _, h4⟩, hx, fx⟩
  obtain rfl : x = x' := hx
  refine T2.l (Ev.all fun n => is_n n _ h4) (T2.r (Ev.all fun n => ris_n n _ _ _ _) ?_)
  dsimp only at fx ⊢
  refine T2.bind (P := fun (p : Bool × Int) q => p.1 = q) ?_ ?_
  · refine T2.bif (fun _ => ?_) (fun _ => T2.pure rfl)
    obtain ⟨b, z, k1, k2⟩ := few_2 fx
    exact T2.l k1 (T2.r k2 (T2.pure rfl))
  rintro ⟨v7, w⟩ v9 hv
  obtain rfl : v7 = v9 := hv
  dsimp only
  refine T2.bind (P := fun (p : List Token × Int × Int) q => p = q ∧ ∃ b e', p = (l, ((b : Nat) : Int), e') ∧ a4 ≤ b ∧ b ≤ l.length) ?_ ?_
  · refine T2.bif (fun _ => ?_) (fun _ => T2.pure ⟨rfl, a4, e4, rfl, Nat.le_refl _, h4⟩)
    exact T2.l (Ev.all fun n => fail_n n l a4 e4 6) (T2.r (Ev.all fun n => rfail_n n l a4 e4 6) (T2.pure ⟨rfl, a4, _, rfl, Nat.le_refl _, h4⟩))
  rintro _ _ ⟨rfl, a5, e5, rfl, _, h5⟩
  dsimp only
  refine T2.bind (need_2 hl h5 _) ?_
  rintro _ _ ⟨a6, e6, rfl, rfl, _, h6⟩
  refine T2.bind (take_2 _ hl h6) ?_
  rintro ⟨_, b⟩ ⟨_, b'⟩ ⟨⟨a7, e7, rfl, rfl, _, h7⟩, hb⟩
  obtain rfl : b = b' := hb
  refine T2.bind (P := fun (p : Int × List Token × Int × Int) q => p = q ∧ ∃ c b e', p = (c, l, ((b : Nat) : Int), e') ∧ a7 ≤ b ∧ b ≤ l.length) ?_ ?_
  · refine T2.bif (fun _ => ?_) (fun _ => T2.pure ⟨rfl, -1, a7, e7, rfl, Nat.le_refl _, h7⟩)
    refine T2.bind (need_2 hl h7 _) ?_
    rintro _ _ ⟨a8, e8, rfl, rfl, h71, h8⟩
    refine T2.bind (one_2 hl h8 (by decide)) ?_
    rintro ⟨_, t2⟩ ⟨_, t2'⟩ ⟨⟨a9, e9, rfl, rfl, h81, h9⟩, ht2⟩
    obtain rfl : t2 = t2' := ht2
    refine T2.bind (need_2 hl h9 _) ?_
    rintro _ _ ⟨a10, e10, rfl, rfl, h91, h10⟩
    exact T2.pure ⟨rfl, _, a10, e10, rfl, by omega, h10⟩
  rintro _ _ ⟨rfl, f5, a8, e8, rfl, _, h8⟩
  dsimp only
  refine T2.bind (need_2 hl h8 _) ?_
  rintro _ _ ⟨a9, e9, rfl, rfl, _, h9⟩
  dsimp only
  refine T2.bind (P := fun (p : List Token × Int × Int) q => p = q ∧ p.1 = l ∧ p.2.1 = (a9 : Int)) ?_ ?_
  · refine T2.bif (fun _ => ?_) (fun _ => T2.pure ⟨rfl, rfl, rfl⟩)
    exact T2.l (Ev.all fun n => fail_n n l a9 e9 12) (T2.r (Ev.all fun n => rfail_n n l a9 e9 12) (T2.pure ⟨rfl, rfl, rfl⟩))
  rintro ⟨g1, g2, g3⟩ _ ⟨rfl, hg1, hg2⟩
  dsimp only at hg1 hg2
  subst hg1 hg2
  dsimp only
  refine T2.bif (fun _ => T2.pure ⟨rfl, fx⟩) (fun _ => ?_)
  refine T2.bif (fun h => ?_) (fun _ => T2.pure ⟨rfl, Fit.leaf _ _ _⟩)
  have hlt := of_decide_eq_true h
  have hix := ix_some (l := g1) (i := a9) (by omega)
  exact T2.l (Ev.all fun n => hix) (T2.r (Ev.all fun n => hix) (T2.pure ⟨rfl, Fit.leaf _ _ _⟩))
end Go.Proofs.YtibkigpmkkkaeaaGreatDoor.Ta
