/- Several texts in one, for FeeTells.said: what the theorem leans on. -/
import Derived.Test.YtknpjecpcmajiaaGreatRows
import Derived.KernelRfl
import Derived.Test.YtknpjecpcmajiaaGreatPt5
set_option maxHeartbeats 1000000
set_option maxRecDepth 1000000
namespace Go.Proofs.YtknpjecpcmajiaaGreat.M
open Go Go.RowKit Rt
def a6r (n : Nat) (f1 : Facts) (kont1 : Option Bool) : Nat → Int → Option Bool
 | 0, _ => none
 | mx1 + 1, i1 =>
  bif decide (i1 < (f1.Lifts.length : Int)) then
   (ix f1.Lifts i1).bind fun ex1 =>
   (bif decide (ex1 < 0) then
    some true
   else
    (ix f1.Lifts i1).bind fun ex2 =>
    some (decide (200 < ex2))).bind fun v5 =>
   bif v5 then
    some false
   else
    a6r n f1 kont1 mx1 (iadd .i64 i1 1)
  else
   kont1
theorem b1n (n : Nat) (f1 : Facts) (kont1 : Option Bool) (mx1 : Nat) (i1 : Int) : a6r n f1 kont1 (mx1 + 1) i1 =
  bif decide (i1 < (f1.Lifts.length : Int)) then
   (ix f1.Lifts i1).bind fun ex1 =>
   (bif decide (ex1 < 0) then
    some true
   else
    (ix f1.Lifts i1).bind fun ex2 =>
    some (decide (200 < ex2))).bind fun v5 =>
   bif v5 then
    some false
   else
    a6r n f1 kont1 mx1 (iadd .i64 i1 1)
  else
   kont1 := rfl
def b3n (n : Nat) (f1 : Facts) (nx1 : Int) : Option Bool :=
 a6r n f1 (
  (bif (f1.Lifts.length : Int) == nx1 then
   some (decide (0 ≤ f1.Persons))
  else
   some false).bind fun v1 =>
  (bif v1 then
   some (decide (f1.Persons ≤ 1000))
  else
   some false).bind fun v2 =>
  (bif v2 then
   some (decide (0 ≤ f1.Flats))
  else
   some false).bind fun v3 =>
  (bif v3 then
   some (decide (f1.Flats ≤ 1000))
  else
   some false).bind fun v4 =>
  some v4) n 0
theorem c1z (n : Nat) (f1 : Facts) (nx1 : Int) (r : Bool) (hm : b3n n f1 nx1 = some r) {w : World} {F : Frz} (hs : Sat F w) {Q : Option Addr} {R : Nat} {G : Nat} (H : SlR (Rp.int .i64) F Q R G f1.Lifts) :
  Calls Tryz.prog 37 #[.agg #[.slice Q R G, .int .i64 f1.Persons, .int .i64 f1.Flats], .int .i64 nx1] w fun e w' => ∃ v F' O', e = .returned v ∧ HS F w [] F' O' w' ∧ (v = .bool r ∧ O' = []) := by
 unfold b3n at hm
 have h := HS.init hs
 refine a1a 52 Tryz.func37 Y Y Y (a0h (a0a (a2i Y Y Y Y h ?_)))
 intro b1 o g
 refine a0b Y Y Y (a0g (a0c (a0h (a0h (a0a (a0b Y Y Y (a0g (a0c (a1i ?_)))))))))
 intro a T
 obtain ⟨kont1, hkont1⟩ : ∃ kont1 : Option Bool, kont1 = ( (bif (f1.Lifts.length : Int) == nx1 then some (decide (0 ≤ f1.Persons)) else some false).bind fun v1 => (bif v1 then some (decide (f1.Persons ≤ 1000)) else some false).bind fun v2 => (bif v2 then some (decide (0 ≤ f1.Flats)) else some false).bind fun v3 => (bif v3 then some (decide (f1.Flats ≤ 1000)) else some false).bind fun v4 => some v4) := ⟨_, Y⟩
 replace hm : (fun m (s : Int) => a6r n f1 kont1 m s) n 0 = some r := by rw [hkont1]; exact hm
 refine a5p (id := 0) (fun m (s : Int) => a6r n f1 kont1 m s) (fun (y : Unit) => kont1) r (fun (s : Int) a w' => o = w' ∧ Has 52 a [(1, .int .i64 nx1), (2, .pointer (some ⟨b1, 0, none⟩)), (5, .int .i64 s)]) (fun (y : Unit) a w' => o = w' ∧ Has 52 a [(1, .int .i64 nx1), (2, .pointer (some ⟨b1, 0, none⟩))]) (fun _ => Y) ?_ ?_ hm ⟨Y, T.cut (l := [1, 2, 5]) Y⟩
 clear hm; rintro _u a gd hm ⟨rfl, U⟩
 rw [hkont1] at hm
 refine a2g (e := .exit 0) U (a1k (a0c (a0h (a0a (a0e fa30_0 Y Y Y (a0p ag28 Y Y g Y (i := 0) Y Y (a1x H.len u28 Y Y Y (a0d Y Y Y (a0u Y Y Y Y Y ?_)))))))))
 refine a0d Y Y Y ?_
 obtain ⟨v1, p, hm⟩ := Yb hm
 refine a1z 4 (fun a w' => o = w' ∧ Has 52 a [(2, .pointer (some ⟨b1, 0, none⟩)), (36, .bool v1)]) ?_ ?_
 rintro a ge ⟨rfl, V⟩
 refine a0z V (a0d Y Y Y ?_)
 obtain ⟨v2, q, hm⟩ := Yb hm
 refine a1z 4 (fun a w' => o = w' ∧ Has 52 a [(2, .pointer (some ⟨b1, 0, none⟩)), (41, .bool v2)]) ?_ ?_
 rintro a gf ⟨rfl, Z⟩
 refine a0z Z (a0d Y Y Y ?_)
 obtain ⟨v3, t, hm⟩ := Yb hm
 refine a1z 4 (fun a w' => o = w' ∧ Has 52 a [(2, .pointer (some ⟨b1, 0, none⟩)), (46, .bool v3)]) ?_ ?_
 rintro a gg ⟨rfl, g0⟩
 refine a0z g0 (a0d Y Y Y ?_)
 obtain ⟨v4, u, hm⟩ := Yb hm
 refine a1z 4 (fun a w' => o = w' ∧ Has 52 a [(51, .bool v4)]) ?_ ?_
 rintro a gh ⟨rfl, g1⟩
 refine a0z g1 (a0b Y Y Y (a0g (a0c (a1d (a1j Y Y ?_)))))
 obtain rfl := Yo hm
 exact ⟨_, _, _, Y, g.Yp [] Y Y, Y, Y⟩
 clear hm
 rcases a0f u with ⟨I, u⟩ | ⟨I, u⟩
 refine a1g 47 Y I (a0e fa30_2 Y Y Y (a0p ag3 Y Y g Y (i := 0) Y Y (a0u Y Y Y Y Y (a0n Y Y Y Y (a0g (a0o (fun a ha => ?_)))))))
 cases u
 exact ⟨Y, ha.cut (l := [51]) Y⟩
 refine a1g 47 Y I (a0t Y (by decide) Y (a0t Y (by decide) Y (a0t Y (by decide) Y (a0k Y Y Y Y (a0g (a0o (fun a ha => ?_)))))))
 cases u
 exact ⟨Y, ha.cut (l := [51]) Y⟩
 clear hm
 rcases a0f t with ⟨J, t⟩ | ⟨J, t⟩
 refine a1g 42 Y J (a0e fa30_2 Y Y Y (a0p ag3 Y Y g Y (i := 0) Y Y (a0u Y Y Y Y Y (a0n Y Y Y Y (a0g (a0o (fun a ha => ?_)))))))
 cases t
 exact ⟨Y, ha.cut (l := [2, 46]) Y⟩
 refine a1g 42 Y J (a0t Y (by decide) Y (a0t Y (by decide) Y (a0t Y (by decide) Y (a0k Y Y Y Y (a0g (a0o (fun a ha => ?_)))))))
 cases t
 exact ⟨Y, ha.cut (l := [2, 46]) Y⟩
 clear hm
 rcases a0f q with ⟨L, q⟩ | ⟨L, q⟩
 refine a1g 37 Y L (a0e fa30_1 Y Y Y (a0p ag3 Y Y g Y (i := 0) Y Y (a0u Y Y Y Y Y (a0n Y Y Y Y (a0g (a0o (fun a ha => ?_)))))))
 cases q
 exact ⟨Y, ha.cut (l := [2, 41]) Y⟩
 refine a1g 37 Y L (a0t Y (by decide) Y (a0t Y (by decide) Y (a0t Y (by decide) Y (a0k Y Y Y Y (a0g (a0o (fun a ha => ?_)))))))
 cases q
 exact ⟨Y, ha.cut (l := [2, 41]) Y⟩
 clear hm
 rcases a0f p with ⟨M, p⟩ | ⟨M, p⟩
 refine a1g 32 Y M (a0e fa30_1 Y Y Y (a0p ag3 Y Y g Y (i := 0) Y Y (a0u Y Y Y Y Y (a0n Y Y Y Y (a0g (a0o (fun a ha => ?_)))))))
 cases p
 exact ⟨Y, ha.cut (l := [2, 36]) Y⟩
 refine a1g 32 Y M (a0t Y (by decide) Y (a0t Y (by decide) Y (a0t Y (by decide) Y (a0k Y Y Y Y (a0g (a0o (fun a ha => ?_)))))))
 cases p
 exact ⟨Y, ha.cut (l := [2, 36]) Y⟩
 clear hm hkont1; intro hk1 mx1 K ihx1
 rintro i1 a gi hm ⟨rfl, g2⟩
 simp only [b1n] at hm
 refine a1n g2 (a0h (a0h (a0a (a0d Y Y Y (a0e fa30_0 Y Y Y (a0p ag28 Y Y g Y (i := 0) Y Y (a1x H.len u28 Y Y Y (a0u Y Y Y Y Y (a0g (a0c ?_))))))))))
 rcases a0f hm with ⟨N, hm⟩ | ⟨N, hm⟩
 refine a0r 10 Y N (a0y Y (a1c (a0c (a0h (a1i (a0h (a0a (a0e fa30_0 Y Y Y (a0p ag28 Y Y g Y (i := 0) Y Y (a0d Y Y Y ?_))))))))))
 obtain ⟨ex1, g4, hm⟩ := Yb hm
 refine a2e (r := (Rp.int .i64)) u28 sz3 Y Y Y Y H g4 ?_
 intro b2 o1 G g5 g6
 have g7 : G = [.int .i64 ex1] := g6
 subst g7
 refine a1s (j := 0) ag3 Y Y g g5 Y Y (a0u Y Y Y Y Y (a0d Y Y Y ?_))
 obtain ⟨v5, k, hm⟩ := Yb hm
 refine a1z 7 (fun a w' => o = w' ∧ Has 52 a [(1, .int .i64 nx1), (2, .pointer (some ⟨b1, 0, none⟩)), (5, .int .i64 i1), (26, .bool v5)]) ?_ ?_
 rintro a gj ⟨rfl, g3⟩
 refine a0z g3 (a0g (a0c ?_))
 rcases a0f hm with ⟨x, hm⟩ | ⟨x, hm⟩
 refine a0r 26 Y x (a0y Y (a0h (a0a (a0b Y Y Y (a0g (a0c (a1d (a0v (a0j (a0j (a0v (a0j (a1j Y Y ?_)))))))))))))
 obtain rfl := Yo hm
 exact ⟨_, _, _, Y, g.Yp [] Y Y, Y, Y⟩
 refine a0r 26 Y x (a0q Y (a1c (a1q (a0c (a0a (a0d Y Y Y (a0u Y Y Y Y Y (a0b Y Y Y (a0g (a0o (fun a ha => ihx1 (iadd .i64 i1 1) a _ hm ?_)))))))))))
 exact ⟨Y, ha.cut (l := [1, 2, 5]) Y⟩
 clear hm
 rcases a0f k with ⟨z, k⟩ | ⟨z, k⟩
 refine a1g 19 Y z (a0t Y (by decide) Y (a0t Y (by decide) Y (a0t Y (by decide) Y (a0t Y (by decide) Y (a0t Y (by decide) Y (a0t Y (by decide) Y (a0n Y Y Y Y (a0g (a0o (fun a ha => ?_))))))))))
 cases k
 exact ⟨Y, ha.cut (l := [1, 2, 5, 26]) Y⟩
 refine a1g 19 Y z (a0e fa30_0 Y Y Y (a0p ag28 Y Y g Y (i := 0) Y Y (a0d Y Y Y ?_)))
 obtain ⟨ex2, g8, k⟩ := Yb k
 refine a2e (r := (Rp.int .i64)) u28 sz3 Y Y Y Y H g8 ?_
 intro b3 o2 g9 ga gb
 have gc : g9 = [.int .i64 ex2] := gb
 subst gc
 refine a1s (j := 0) ag3 Y Y g ga Y Y (a0u Y Y Y Y Y (a0k Y Y Y Y (a0g (a0o (fun a ha => ?_)))))
 cases k
 exact ⟨Y, ha.cut (l := [1, 2, 5, 26]) Y⟩
 refine a0r 10 Y N (a0q Y (a3p (a0x (a0x (fun a ha => hk1 () a _ hm ?_)))))
 exact ⟨Y, ha.cut (l := [1, 2]) Y⟩
theorem ent42 : Ent Tryz.prog 42 := fun _ _ => by kernel_rfl
def a5m (n : Nat) (l1 : (List Frac)) (kont1 : Option Bool) : Nat → Int → Option Bool
 | 0, _ => none
 | mx1 + 1, i1 =>
  bif decide (i1 < (l1.length : Int)) then
   (ix l1 i1).bind fun ex1 =>
   (a2z n ex1).bind fun v1 =>
   (bif !v1 then
    some true
   else
    (ix l1 i1).bind fun ex2 =>
    (a8j n ex2).bind fun v3 =>
    some (decide (v3 < 0))).bind fun v2 =>
   bif v2 then
    some false
   else
    a5m n l1 kont1 mx1 (iadd .i64 i1 1)
  else
   kont1
theorem b0c (n : Nat) (l1 : (List Frac)) (kont1 : Option Bool) (mx1 : Nat) (i1 : Int) : a5m n l1 kont1 (mx1 + 1) i1 =
  bif decide (i1 < (l1.length : Int)) then
   (ix l1 i1).bind fun ex1 =>
   (a2z n ex1).bind fun v1 =>
   (bif !v1 then
    some true
   else
    (ix l1 i1).bind fun ex2 =>
    (a8j n ex2).bind fun v3 =>
    some (decide (v3 < 0))).bind fun v2 =>
   bif v2 then
    some false
   else
    a5m n l1 kont1 mx1 (iadd .i64 i1 1)
  else
   kont1 := rfl
def b1s (n : Nat) (l1 : (List Frac)) (nx1 : Int) : Option Bool :=
 a5m n l1 (
  some ((l1.length : Int) == nx1)) n 0
theorem b8z (n : Nat) (l1 : (List Frac)) (nx1 : Int) (r : Bool) (hm : b1s n l1 nx1 = some r) {w : World} {F : Frz} (hs : Sat F w) {j : Option Addr} {k : Nat} {i : Nat} (o : SlR rp_Frac F j k i l1) :
  Calls Tryz.prog 38 #[.slice j k i, .int .i64 nx1] w fun e w' => ∃ v F' O', e = .returned v ∧ HS F w [] F' O' w' ∧ (v = .bool r ∧ O' = []) := by
 unfold b1s at hm
 have h := HS.init hs
 refine a1a 30 Tryz.func38 Y Y Y (a0h (a0a (a0b Y Y Y (a0g (a0c (a0h (a0h (a0a (a0b Y Y Y (a0g (a0c (a1i ?_))))))))))))
 intro a M
 obtain ⟨kont1, hkont1⟩ : ∃ kont1 : Option Bool, kont1 = ( some ((l1.length : Int) == nx1)) := ⟨_, Y⟩
 replace hm : (fun m (s : Int) => a5m n l1 kont1 m s) n 0 = some r := by rw [hkont1]; exact hm
 refine a5p (id := 0) (fun m (s : Int) => a5m n l1 kont1 m s) (fun (y : Unit) => kont1) r (fun (s : Int) a w' => ∃ (u : Frz), Frz.le F u ∧ HS F w [] u [] w' ∧ Has 30 a [(0, .slice j k i), (1, .int .i64 nx1), (5, .int .i64 s)]) (fun (y : Unit) a w' => ∃ (x : Frz), Frz.le F x ∧ HS F w [] x [] w' ∧ Has 30 a [(0, .slice j k i), (1, .int .i64 nx1)]) (fun _ => Y) ?_ ?_ hm ⟨_, Yf, h.Yp [] Y Y, M.cut (l := [0, 1, 5]) Y⟩
 clear hm; rintro _u a gg hm ⟨x, gh, T, N⟩
 rw [hkont1] at hm
 refine a2g (e := .exit 0) N (a1k (a0c (a0h (a0a (a0d Y Y Y (a1x o.len u31 Y Y Y (a0d Y Y Y (a0u Y Y Y Y Y (a0b Y Y Y (a0g (a0c (a1d (a1j Y Y ?_)))))))))))))
 obtain rfl := Yo hm
 exact ⟨_, _, _, Y, T.Yp [] Y Y, Y, Y⟩
 clear hm hkont1; intro hk1 mx1 K ihx1
 rintro i1 a gi hm ⟨u, p, q, Q⟩
 simp only [b0c] at hm
 refine a1n Q (a0h (a0h (a0a (a0d Y Y Y (a0d Y Y Y (a1x o.len u31 Y Y Y (a0u Y Y Y Y Y (a0g (a0c ?_)))))))))
 rcases a0f hm with ⟨z, hm⟩ | ⟨z, hm⟩
 refine a0r 9 Y z (a0y Y (a1c (a0c (a0h (a1i (a0h (a0a (a0d Y Y Y (a0d Y Y Y ?_)))))))))
 obtain ⟨ex1, U, hm⟩ := Yb hm
 refine a2e (r := rp_Frac) u31 sz37 Y Y Y Y (o.mono p) U ?_
 intro b1 o1 i V Z
 obtain ⟨gj, gk, g0, gl, gm, gn, g1, g2, g3⟩ := Z
 subst g1
 refine a4g ag37 sz37 Y Y q V Y Y ?_
 obtain ⟨v1, g4, hm⟩ := Yb hm
 refine a0i ent74 Y Y Y Y q (a3a _ _ _ g4 q.sat g2 g3) ?_
 rintro _ g5 _ go J t ⟨rfl, rfl⟩
 refine a3d Y Y Y (a0d Y Y Y ?_)
 obtain ⟨v2, g, hm⟩ := Yb hm
 refine a1z 7 (fun a w' => ∃ (G : Frz), Frz.le g5 G ∧ HS F w [] G [] w' ∧ Has 30 a [(0, .slice j k i), (1, .int .i64 nx1), (5, .int .i64 i1), (25, .bool v2)]) ?_ ?_
 rintro a gp ⟨G, g6, L, R⟩
 refine a0z R (a0g (a0c ?_))
 rcases a0f hm with ⟨H, hm⟩ | ⟨H, hm⟩
 refine a0r 25 Y H (a0y Y (a0h (a0a (a0b Y Y Y (a0g (a0c (a1d (a0v (a0j (a0j (a0v (a0j (a1j Y Y ?_)))))))))))))
 obtain rfl := Yo hm
 exact ⟨_, _, _, Y, L.Yp [] Y Y, Y, Y⟩
 refine a0r 25 Y H (a0q Y (a1c (a1q (a0c (a0a (a0d Y Y Y (a0u Y Y Y Y Y (a0b Y Y Y (a0g (a0o (fun a ha => ihx1 (iadd .i64 i1 1) a _ hm ?_)))))))))))
 exact ⟨_, ((p.trans J).trans g6), L.Yp [] Y Y, ha.cut (l := [0, 1, 5]) Y⟩
 clear hm
 rcases a0f g with ⟨I, g⟩ | ⟨I, g⟩
 refine a1g 18 Y I (a0t Y (by decide) Y (a0t Y (by decide) Y (a0t Y (by decide) Y (a0t Y (by decide) Y (a0t Y (by decide) Y (a0t Y (by decide) Y (a0n Y Y Y Y (a0g (a0o (fun a ha => ?_))))))))))
 cases g
 exact ⟨_, Yf, t.Yp [] Y Y, ha.cut (l := [0, 1, 5, 25]) Y⟩
 refine a1g 18 Y I (a0d Y Y Y (a0d Y Y Y ?_))
 obtain ⟨ex2, g7, g⟩ := Yb g
 refine a2e (r := rp_Frac) u31 sz37 Y Y Y Y ((o.mono p).mono J) g7 ?_
 intro b2 o2 g0 g8 g9
 obtain ⟨gq, gr, gs, gt, gu, gv, ga, gb, gc⟩ := g9
 subst ga
 refine a4g ag37 sz37 Y Y t g8 Y Y ?_
 obtain ⟨v3, gd, g⟩ := Yb g
 refine a0i ent42 Y Y Y Y t (b7k _ _ _ gd t.sat gb gc) ?_
 rintro _ gw _ gx ge gf ⟨rfl, rfl⟩
 refine a0u Y Y Y Y Y (a0k Y Y Y Y (a0g (a0o (fun a ha => ?_))))
 cases g
 exact ⟨_, ge, gf.Yp [] Y Y, ha.cut (l := [0, 1, 5, 25]) Y⟩
 refine a0r 9 Y z (a0q Y (a3p (a0x (a0x (fun a ha => hk1 () a _ hm ?_)))))
 exact ⟨_, p, q.Yp [] Y Y, ha.cut (l := [0, 1]) Y⟩
structure Result where
 N : Frac
 Is : Bool
 deriving DecidableEq, Inhabited
def rp_Result : Rp Result where
 k := 5
 R := fun F cs x => ∃ (a1 : Option Addr) (n1 : Nat) (c1 : Nat) (a3 : Option Addr) (n3 : Nat) (c3 : Nat), cs = [.int .i64 x.N.P.Sign, .slice a1 n1 c1, .int .i64 x.N.Q.Sign, .slice a3 n3 c3, .bool x.Is] ∧ SlR (Rp.int .i64) F a1 n1 c1 x.N.P.Digits ∧ SlR (Rp.int .i64) F a3 n3 c3 x.N.Q.Digits
 len := by rintro F cs x ⟨a1, n1, c1, a3, n3, c3, h, _⟩; simp [h]
 mono := by rintro F F' cs x hF ⟨a1, n1, c1, a3, n3, c3, h, h0, h1⟩; exact ⟨a1, n1, c1, a3, n3, c3, h, h0.mono hF, h1.mono hF⟩
 one := by rintro F cs x ⟨a1, n1, c1, a3, n3, c3, h, _⟩ u hu; subst h; simp at hu; rcases hu with rfl | rfl | rfl | rfl | rfl <;> rfl
theorem ze69 : c2f Tryz.prog 69 (.agg #[.int .i64 0, .slice none 0 0, .int .i64 0, .slice none 0 0, .bool false]) := fun _ => by kernel_rfl
theorem sz69 : a5q Tryz.prog 69 5 := fun _ => by kernel_rfl
theorem ag69 : b0r Tryz.prog 69 true := fun _ => by kernel_rfl
def a7v (n : Nat) (nx1 : Int) : Option Result :=
 (a6t n nx1).bind fun v1 =>
 some (⟨v1, false⟩ : Result)
theorem b0y (n : Nat) (nx1 : Int) (r : Result) (hm : a7v n nx1 = some r) {w : World} {F : Frz} (hs : Sat F w)  :
  Calls Tryz.prog 110 #[.int .i64 nx1] w fun e w' => ∃ v F' O', e = .returned v ∧ HS F w [] F' O' w' ∧ (∃ (a0_1 : Option Addr) (n0_1 : Nat) (c0_1 : Nat) (a0_3 : Option Addr) (n0_3 : Nat) (c0_3 : Nat), v = .agg #[.int .i64 r.N.P.Sign, .slice a0_1 n0_1 c0_1, .int .i64 r.N.Q.Sign, .slice a0_3 n0_3 c0_3, .bool r.Is] ∧ O' = [] ∧ SlR (Rp.int .i64) F' a0_1 n0_1 c0_1 r.N.P.Digits ∧ SlR (Rp.int .i64) F' a0_3 n0_3 c0_3 r.N.Q.Digits) := by
 unfold a7v at hm
 have h := HS.init hs
 refine a1a 6 Tryz.func110 Y Y Y (a0h (a0a (a1f ze69 Y Y Y h ?_)))
 intro b1 y g
 refine a0g (a0c (a0h (a0a (a0d Y Y Y ?_))))
 obtain ⟨v1, s, hm⟩ := Yb hm
 refine a0i ent17 Y Y Y Y g (a6y _ _ _ s g.sat) ?_
 rintro _ z _ G H t ⟨j, k, l, m, o, p, rfl, rfl, u, x⟩
 refine a1y (v := .agg #[.int .i64 v1.P.Sign, .slice j k l, .int .i64 v1.Q.Sign, .slice m o p, .bool false]) Y Y Y (fun _ => by kernel_rfl) (a0s sz69 Y t Y Y Y Y (i := 0) Y Y Y Y ?_)
 intro I q
 refine a0g (a0c (a1d (a3y Y ag69 sz69 Y q Y (i := 0) Y ?_)))
 obtain rfl := Yo hm
 exact ⟨_, _, _, Y, q.Yp [] Y Y, j, k, l, m, o, p, Y, Y, u, x⟩
theorem ent110 : Ent Tryz.prog 110 := fun _ _ => by kernel_rfl
def b3m (n : Nat) (x1 : Expr) (names1 : (List Bs)) (f1 : Facts) (weights1 : (List Frac)) : Option Result :=
 (a4x n names1 x1.Name).bind fun v1 =>
 bif x1.Op == 0 then
  (a7v n x1.N).bind fun v2 =>
  some v2
 else
  bif x1.Op == 1 then
   (ix f1.Lifts v1).bind fun ex1 =>
   (a7v n ex1).bind fun v3 =>
   some v3
  else
   bif x1.Op == 2 then
    (a7v n f1.Persons).bind fun v4 =>
    some v4
   else
    bif x1.Op == 3 then
     (a7v n f1.Flats).bind fun v5 =>
     some v5
    else
     (ix weights1 v1).bind fun ex2 =>
     some (⟨ex2, false⟩ : Result)
theorem c3x (n : Nat) (x1 : Expr) (names1 : (List Bs)) (f1 : Facts) (weights1 : (List Frac)) (r : Result) (hm : b3m n x1 names1 f1 weights1 = some r) {w : World} {F : Frz} (hs : Sat F w) {I J K L : Option Addr} {M k R l T U V Z : Nat} (_hs1 : SlR rp_Expr F I M k x1.Args) (gi : SlR Rp.str F J R l names1) (gj : SlR (Rp.int .i64) F K T U f1.Lifts) (gk : SlR rp_Frac F L V Z weights1) :
  Calls Tryz.prog 75 #[.agg #[.int .i64 x1.Op, .int .i64 x1.N, vs x1.Name, .slice I M k], .slice J R l, .agg #[.slice K T U, .int .i64 f1.Persons, .int .i64 f1.Flats], .slice L V Z] w fun e w' => ∃ v F' O', e = .returned v ∧ HS F w [] F' O' w' ∧ (∃ (a0_1 : Option Addr) (n0_1 : Nat) (c0_1 : Nat) (a0_3 : Option Addr) (n0_3 : Nat) (c0_3 : Nat), v = .agg #[.int .i64 r.N.P.Sign, .slice a0_1 n0_1 c0_1, .int .i64 r.N.Q.Sign, .slice a0_3 n0_3 c0_3, .bool r.Is] ∧ O' = [] ∧ SlR (Rp.int .i64) F' a0_1 n0_1 c0_1 r.N.P.Digits ∧ SlR (Rp.int .i64) F' a0_3 n0_3 c0_3 r.N.Q.Digits) := by
 unfold b3m at hm
 have h := HS.init hs
 refine a1a 44 Tryz.func75 Y Y Y (a0h (a0a (a2i Y Y Y Y h ?_)))
 intro b1 hr gl
 refine a2i Y Y Y Y gl ?_
 intro b2 ht gm
 refine a1f ze69 Y Y Y gm ?_
 intro b3 hu g
 refine a0g (a0c (a0h (a0a (a0d Y Y Y (a0e fa24_2 Y Y Y (a0p ag9 Y Y g Y (i := 2) Y Y ?_))))))
 obtain ⟨v1, gn, hm⟩ := Yb hm
 refine a3c ent108 Y Y Y Y (b5k _ _ _ _ gn g.sat gi) (a0b Y Y Y (a0g (a0c (a0h (a0h (a0a (a0e fa24_0 Y Y Y (a0p ag3 Y Y g Y (i := 2) Y Y (a0g (a0c (a1i (a0h (a0a (a0u Y Y Y Y Y (a0b Y Y Y (a0g (a0c ?_)))))))))))))))))
 rcases a0f hm with ⟨m, hm⟩ | ⟨m, hm⟩
 refine a0r 16 Y m (a0y Y (a0h (a0a (a0e fa24_1 Y Y Y (a0p ag3 Y Y g Y (i := 2) Y Y ?_)))))
 obtain ⟨v2, go, hm⟩ := Yb hm
 refine a0i ent110 Y Y Y Y g (b0y _ _ _ go g.sat) ?_
 rintro _ hv _ hw hx gp ⟨gq, gr, gs, gt, gu, gv, rfl, rfl, gw, gx⟩
 refine a0s sz69 Y gp Y Y Y Y (i := 0) Y Y Y Y ?_
 intro hy g0
 refine a0g (a0c (a1d (a0v (a0j (a3y Y ag69 sz69 Y g0 Y (i := 0) Y ?_)))))
 obtain rfl := Yo hm
 exact ⟨_, _, _, Y, g0.Yp [] Y Y, gq, gr, gs, gt, gu, gv, Y, Y, gw, gx⟩
 refine a0r 16 Y m (a0q Y (a0h (a0a (a0u Y Y Y Y Y (a0b Y Y Y (a0g (a0c ?_)))))))
 rcases a0f hm with ⟨o, hm⟩ | ⟨o, hm⟩
 refine a0r 21 Y o (a0y Y (a0h (a0a (a0e fa30_0 Y Y Y (a0p ag28 Y Y g Y (i := 1) Y Y (a0d Y Y Y ?_))))))
 obtain ⟨ex1, gy, hm⟩ := Yb hm
 refine a2e (r := (Rp.int .i64)) u28 sz3 Y Y Y Y gj gy ?_
 intro b4 o1 k gz h0
 have h1 : k = [.int .i64 ex1] := h0
 subst h1
 refine a1s (j := 0) ag3 Y Y g gz Y Y ?_
 obtain ⟨v3, h2, hm⟩ := Yb hm
 refine a0i ent110 Y Y Y Y g (b0y _ _ _ h2 g.sat) ?_
 rintro _ hz _ i0 i1 h3 ⟨h4, h5, h6, h7, h8, h9, rfl, rfl, ha, hb⟩
 refine a0s sz69 Y h3 Y Y Y Y (i := 0) Y Y Y Y ?_
 intro i2 g1
 refine a0g (a0c (a1d (a0v (a0j (a3y Y ag69 sz69 Y g1 Y (i := 0) Y ?_)))))
 obtain rfl := Yo hm
 exact ⟨_, _, _, Y, g1.Yp [] Y Y, h4, h5, h6, h7, h8, h9, Y, Y, ha, hb⟩
 refine a0r 21 Y o (a0q Y (a0h (a0a (a0u Y Y Y Y Y (a0b Y Y Y (a0g (a0c ?_)))))))
 rcases a0f hm with ⟨p, hm⟩ | ⟨p, hm⟩
 refine a0r 29 Y p (a0y Y (a0h (a0a (a0e fa30_1 Y Y Y (a0p ag3 Y Y g Y (i := 1) Y Y ?_)))))
 obtain ⟨v4, hc, hm⟩ := Yb hm
 refine a0i ent110 Y Y Y Y g (b0y _ _ _ hc g.sat) ?_
 rintro _ i3 _ i4 i5 hd ⟨he, hf, hg, g3, g4, g5, rfl, rfl, hh, g6⟩
 refine a0s sz69 Y hd Y Y Y Y (i := 0) Y Y Y Y ?_
 intro i6 g2
 refine a0g (a0c (a1d (a0v (a0j (a3y Y ag69 sz69 Y g2 Y (i := 0) Y ?_)))))
 obtain rfl := Yo hm
 exact ⟨_, _, _, Y, g2.Yp [] Y Y, he, hf, hg, g3, g4, g5, Y, Y, hh, g6⟩
 refine a0r 29 Y p (a0q Y (a0h (a0a (a0u Y Y Y Y Y (a0b Y Y Y (a0g (a0c ?_)))))))
 rcases a0f hm with ⟨q, hm⟩ | ⟨q, hm⟩
 refine a0r 34 Y q (a0y Y (a0h (a0a (a0e fa30_2 Y Y Y (a0p ag3 Y Y g Y (i := 1) Y Y ?_)))))
 obtain ⟨v5, hi, hm⟩ := Yb hm
 refine a0i ent110 Y Y Y Y g (b0y _ _ _ hi g.sat) ?_
 rintro _ i7 _ ho i8 g7 ⟨g8, g9, ga, gb, gc, gd, rfl, rfl, ge, gf⟩
 refine a0s sz69 Y g7 Y Y Y Y (i := 0) Y Y Y Y ?_
 intro hp s
 refine a0g (a0c (a1d (a0v (a0j (a3y Y ag69 sz69 Y s Y (i := 0) Y ?_)))))
 obtain rfl := Yo hm
 exact ⟨_, _, _, Y, s.Yp [] Y Y, g8, g9, ga, gb, gc, gd, Y, Y, ge, gf⟩
 refine a0r 34 Y q (a0q Y (a1c (a1q (a0c (a0h (a0a (a0d Y Y Y (a0d Y Y Y ?_))))))))
 obtain ⟨ex2, hj, hm⟩ := Yb hm
 refine a2e (r := rp_Frac) u31 sz37 Y Y Y Y gk hj ?_
 intro b5 o2 l hk hl
 obtain ⟨t, u, x, y, z, G, hn, gg, gh⟩ := hl
 subst hn
 refine a4g ag37 sz37 Y Y g hk Y Y (a1y (v := .agg #[.int .i64 ex2.P.Sign, .slice t u x, .int .i64 ex2.Q.Sign, .slice y z G, .bool false]) Y Y Y (fun _ => by kernel_rfl) (a0s sz69 Y g Y Y Y Y (i := 0) Y Y Y Y ?_))
 intro hq H
 refine a0g (a0c (a1d (a3y Y ag69 sz69 Y H Y (i := 0) Y ?_)))
 obtain rfl := Yo hm
 exact ⟨_, _, _, Y, H.Yp [] Y Y, t, u, x, y, z, G, Y, Y, gg, gh⟩
theorem ent111 : Ent Tryz.prog 111 := fun _ _ => by kernel_rfl
theorem ent112 : Ent Tryz.prog 112 := fun _ _ => by kernel_rfl
theorem ent113 : Ent Tryz.prog 113 := fun _ _ => by kernel_rfl
theorem ent114 : Ent Tryz.prog 114 := fun _ _ => by kernel_rfl
theorem ent115 : Ent Tryz.prog 115 := fun _ _ => by kernel_rfl
theorem ent116 : Ent Tryz.prog 116 := fun _ _ => by kernel_rfl
def b1k (n : Nat) (op1 : Int) (ax1 : Frac) (b1 : Frac) : Option Result :=
 (bif op1 == 5 then
  (b5m n ax1 b1).bind fun v6 =>
  some (v6.1.P.Sign, v6.1.P.Digits, v6.1.Q.Sign, v6.1.Q.Digits)
 else
  bif op1 == 6 then
   (b4n n ax1 b1).bind fun v7 =>
   some (v7.1.P.Sign, v7.1.P.Digits, v7.1.Q.Sign, v7.1.Q.Digits)
  else
   bif op1 == 7 then
    (b4z n ax1 b1).bind fun v8 =>
    some (v8.1.P.Sign, v8.1.P.Digits, v8.1.Q.Sign, v8.1.Q.Digits)
   else
    bif op1 == 8 then
     (b5p n ax1 b1).bind fun v9 =>
     some (v9.1.P.Sign, v9.1.P.Digits, v9.1.Q.Sign, v9.1.Q.Digits)
    else
     bif op1 == 9 then
      (b4u n ax1 b1).bind fun v10 =>
      some (v10.1.P.Sign, v10.1.P.Digits, v10.1.Q.Sign, v10.1.Q.Digits)
     else
      bif op1 == 10 then
       (b5f n ax1 b1).bind fun v11 =>
       some (v11.1.P.Sign, v11.1.P.Digits, v11.1.Q.Sign, v11.1.Q.Digits)
      else
       some (0, [], 0, [])).bind fun (f1, f2, f3, f4) =>
 (bif op1 == 12 then
  (a5t n ax1 b1).bind fun v5 =>
  some (decide (v5 < 0))
 else
  some false).bind fun v1 =>
 (bif v1 then
  some true
 else
  (bif op1 == 13 then
   (a5t n ax1 b1).bind fun v4 =>
   some (v4 == 0)
  else
   some false).bind fun v3 =>
  some v3).bind fun v2 =>
 some (⟨(⟨(⟨f1, f2⟩ : Big), (⟨f3, f4⟩ : Big)⟩ : Frac), v2⟩ : Result)
theorem c4n (n : Nat) (op1 : Int) (ax1 : Frac) (b1 : Frac) (r : Result) (hm : b1k n op1 ax1 b1 = some r) {w : World} {F : Frz} (hs : Sat F w) {I J K L : Option Addr} {M R T U V Z g0 g1 : Nat} (u : SlR (Rp.int .i64) F I M R ax1.P.Digits) (x : SlR (Rp.int .i64) F J T U ax1.Q.Digits) (y : SlR (Rp.int .i64) F K V Z b1.P.Digits) (z : SlR (Rp.int .i64) F L g0 g1 b1.Q.Digits) :
  Calls Tryz.prog 76 #[.int .i64 op1, .agg #[.int .i64 ax1.P.Sign, .slice I M R, .int .i64 ax1.Q.Sign, .slice J T U], .agg #[.int .i64 b1.P.Sign, .slice K V Z, .int .i64 b1.Q.Sign, .slice L g0 g1]] w fun e w' => ∃ v F' O', e = .returned v ∧ HS F w [] F' O' w' ∧ (∃ (a0_1 : Option Addr) (n0_1 : Nat) (c0_1 : Nat) (a0_3 : Option Addr) (n0_3 : Nat) (c0_3 : Nat), v = .agg #[.int .i64 r.N.P.Sign, .slice a0_1 n0_1 c0_1, .int .i64 r.N.Q.Sign, .slice a0_3 n0_3 c0_3, .bool r.Is] ∧ O' = [] ∧ SlR (Rp.int .i64) F' a0_1 n0_1 c0_1 r.N.P.Digits ∧ SlR (Rp.int .i64) F' a0_3 n0_3 c0_3 r.N.Q.Digits) := by
 unfold b1k at hm
 have h := HS.init hs
 refine a1a 78 Tryz.func76 Y Y Y (a0h (a0a (a2i Y Y Y Y h ?_)))
 intro b2 jy ij
 refine a2i Y Y Y Y ij ?_
 intro b3 jz ik
 refine a1f ze69 Y Y Y ik ?_
 intro b4 k0 il
 refine a0g (a0c (a0h (a0a (a1y (v := .agg #[.int .i64 0, .slice none 0 0, .int .i64 0, .slice none 0 0]) Y Y Y (fun _ => by kernel_rfl) (a1f ze37 Y Y Y il ?_)))))
 intro b5 k1 im
 refine a0s sz37 Y im Y Y Y Y (i := 0) Y Y Y Y ?_
 intro k2 j
 refine a0g (a0c (a0h (a0h (a0a (a0d Y Y Y (a0g (a0c ?_)))))))
 obtain ⟨⟨f1, f2, f3, f4⟩, g, hm⟩ := Yb hm
 refine a9a (fun a w' => ∃ (g2 : Frz) (k : Option Addr) (m : Nat) (o : Nat) (p : Option Addr) (q : Nat) (s : Nat), Frz.le F g2 ∧ HS F w [] g2 [.box b5 37 [.int .i64 f1, .slice k m o, .int .i64 f3, .slice p q s], .box b4 69 [.int .i64 0, .slice none 0 0, .int .i64 0, .slice none 0 0, .bool false], .box b3 37 [.int .i64 b1.P.Sign, .slice K V Z, .int .i64 b1.Q.Sign, .slice L g0 g1], .box b2 37 [.int .i64 ax1.P.Sign, .slice I M R, .int .i64 ax1.Q.Sign, .slice J T U]] w' ∧ (SlR (Rp.int .i64) g2 k m o f2) ∧ (SlR (Rp.int .i64) g2 p q s f4) ∧ Has 78 a [(0, .int .i64 op1), (4, .pointer (some ⟨b2, 0, none⟩)), (5, .pointer (some ⟨b3, 0, none⟩)), (6, .pointer (some ⟨b4, 0, none⟩)), (7, .pointer (some ⟨b5, 0, none⟩))]) ?_ ?_
 rintro a k3 ⟨g2, k, m, o, p, q, s, G, io, ip, iq, gv⟩
 refine a1n gv (a0h (a2l (SH g2 [.box b5 37 [.int .i64 f1, .slice k m o, .int .i64 f3, .slice p q s], .box b3 37 [.int .i64 b1.P.Sign, .slice K V Z, .int .i64 b1.Q.Sign, .slice L g0 g1], .box b2 37 [.int .i64 ax1.P.Sign, .slice I M R, .int .i64 ax1.Q.Sign, .slice J T U]]) 21 Y (by kernel_rfl) io ?_))
 intro k4 gc
 have S0 := gc.Ys Yf [0, 2, 3] Y Y
 refine d_tk 0 Y (by kernel_rfl) Y Y Y Y S0 (fun _ _ _ _ hq => a0m ag37 sz37 Y Y hq Y (i := 0) Y Y Yn) (d_tk 1 Y (by kernel_rfl) Y Y Y Y S0 (fun _ _ _ _ _ => a0d Y Y Y Yn) (d_tk 2 Y (by kernel_rfl) Y Y Y Y S0 (fun _ _ _ _ _ => a0u Y Y Y Y Y Yn) (d_tk 3 Y (by kernel_rfl) Y Y Y Y S0 (fun _ _ _ _ _ => a0d Y Y Y Yn) ?_)))
 obtain ⟨v1, g3, hm⟩ := Yb hm
 refine c5c (fuel' := 12) (listed' := #[true, true, true, true, true, true, true, true, true, false, false, false, false, false, false, false, false, false, false, false, false]) (fun a w' => ∃ (g5 : Frz), Frz.le g2 g5 ∧ HS F w [] g5 [.box b5 37 [.int .i64 f1, .slice k m o, .int .i64 f3, .slice p q s], .box b4 69 [.int .i64 0, .slice none 0 0, .int .i64 0, .slice none 0 0, .bool false], .box b3 37 [.int .i64 b1.P.Sign, .slice K V Z, .int .i64 b1.Q.Sign, .slice L g0 g1], .box b2 37 [.int .i64 ax1.P.Sign, .slice I M R, .int .i64 ax1.Q.Sign, .slice J T U]] w' ∧ Has 78 a [(0, .int .i64 op1), (4, .pointer (some ⟨b2, 0, none⟩)), (5, .pointer (some ⟨b3, 0, none⟩)), (6, .pointer (some ⟨b4, 0, none⟩)), (58, .agg #[.int .i64 f1, .slice k m o, .int .i64 f3, .slice p q s]), (66, .bool v1)]) ?_ (fun go => ?_)
 rintro a k5 ⟨g5, t, g6, gw⟩
 refine b2p gw ?_
 have S1 := g6.Ys t [0, 2, 3] Y Y
 refine d_tk 9 Y (by kernel_rfl) Y Y Y Y S1 (fun _ _ _ _ _ => a0d Y Y Y Yn) ?_
 obtain ⟨v2, H, hm⟩ := Yb hm
 refine c5c (fuel' := 2) (listed' := #[true, true, true, true, true, true, true, true, true, true, true, true, true, true, true, true, true, true, true, false, false]) (fun a w' => ∃ (ge : Frz), Frz.le g5 ge ∧ HS F w [] ge [.box b5 37 [.int .i64 f1, .slice k m o, .int .i64 f3, .slice p q s], .box b4 69 [.int .i64 0, .slice none 0 0, .int .i64 0, .slice none 0 0, .bool false], .box b3 37 [.int .i64 b1.P.Sign, .slice K V Z, .int .i64 b1.Q.Sign, .slice L g0 g1], .box b2 37 [.int .i64 ax1.P.Sign, .slice I M R, .int .i64 ax1.Q.Sign, .slice J T U]] w' ∧ Has 78 a [(6, .pointer (some ⟨b4, 0, none⟩)), (58, .agg #[.int .i64 f1, .slice k m o, .int .i64 f3, .slice p q s]), (76, .bool v2)]) ?_ (fun gp => ?_)
 rintro a k6 ⟨ge, gd, gq, gx⟩
 refine b2p gx (d_tk 19 Y (by kernel_rfl) Y Y Y Y (gq.Ys (t.trans gd) [0, 2, 3] Y Y) (fun _ _ _ _ _ => a1y (v := .agg #[.int .i64 f1, .slice k m o, .int .i64 f3, .slice p q s, .bool v2]) Y Y Y (fun _ => by kernel_rfl) Yn) (a1b 20 Y (by kernel_rfl) (a0s sz69 Y gq Y Y Y Y (i := 1) Y Y Y Y ?_)))
 intro jf g7
 refine a0w (g7.Ys (t.trans gd) [0, 2, 3] Y Y) (a2x (by kernel_rfl) (a0c (a1d (a3y Y ag69 sz69 Y g7 Y (i := 1) Y ?_))))
 obtain rfl := Yo hm
 exact ⟨_, _, _, Y, g7.Yp [] Y Y, k, m, o, p, q, s, Y, Y, ((ip.mono t).mono gd), ((iq.mono t).mono gd)⟩
 clear hm
 rcases a0f H with ⟨gf, H⟩ | ⟨gf, H⟩
 refine b5z 67 Y gf (d_of 10 Y (by kernel_rfl) Y Y Y S1 (d_of 11 Y (by kernel_rfl) Y Y Y S1 (d_of 12 Y (by kernel_rfl) Y Y Y S1 (d_of 13 Y (by kernel_rfl) Y Y Y S1 (d_of 14 Y (by kernel_rfl) Y Y Y S1 (d_of 15 Y (by kernel_rfl) Y Y Y S1 ?_))))))
 refine d_of 16 Y (by kernel_rfl) Y Y Y S1 (d_of 17 Y (by kernel_rfl) Y Y Y S1 (d_tk 18 Y (by kernel_rfl) Y Y Y Y S1 (fun _ _ _ _ _ => a0n Y Y Y Y Yn) (b6a gp (by kernel_rfl) (fun a ha => ?_))))
 cases H
 exact ⟨_, Yf, g6.Yp [0, 1, 2, 3] Y Y, ha.cut (l := [6, 58, 76]) Y⟩
 refine b5z 67 Y gf (d_tk 10 Y (by kernel_rfl) Y Y Y Y S1 (fun _ _ _ _ _ => a0d Y Y Y Yn) (d_tk 11 Y (by kernel_rfl) Y Y Y Y S1 (fun _ _ _ _ _ => a0u Y Y Y Y Y Yn) (d_tk 12 Y (by kernel_rfl) Y Y Y Y S1 (fun _ _ _ _ _ => a0d Y Y Y Yn) ?_)))
 obtain ⟨v3, g4, H⟩ := Yb H
 refine c5c (fuel' := 3) (listed' := #[true, true, true, true, true, true, true, true, true, true, true, true, true, true, true, true, true, true, false, false, false]) (fun a w' => ∃ (gg : Frz), Frz.le g5 gg ∧ HS F w [] gg [.box b5 37 [.int .i64 f1, .slice k m o, .int .i64 f3, .slice p q s], .box b4 69 [.int .i64 0, .slice none 0 0, .int .i64 0, .slice none 0 0, .bool false], .box b3 37 [.int .i64 b1.P.Sign, .slice K V Z, .int .i64 b1.Q.Sign, .slice L g0 g1], .box b2 37 [.int .i64 ax1.P.Sign, .slice I M R, .int .i64 ax1.Q.Sign, .slice J T U]] w' ∧ Has 78 a [(6, .pointer (some ⟨b4, 0, none⟩)), (58, .agg #[.int .i64 f1, .slice k m o, .int .i64 f3, .slice p q s]), (67, .bool false), (75, .bool v3)]) ?_ (fun gr => ?_)
 rintro a jg ⟨gg, gs, gh, gy⟩
 refine b2p gy (d_tk 18 Y (by kernel_rfl) Y Y Y Y (gh.Ys (t.trans gs) [0, 2, 3] Y Y) (fun _ _ _ _ _ => a0k Y Y Y Y Yn) (b6a gp (by kernel_rfl) (fun a ha => ?_)))
 cases H
 exact ⟨_, gs, gh.Yp [0, 1, 2, 3] Y Y, ha.cut (l := [6, 58, 76]) Y⟩
 clear H
 rcases a0f g4 with ⟨gi, g4⟩ | ⟨gi, g4⟩
 refine b5z 70 Y gi (d_tk 13 Y (by kernel_rfl) Y Y Y Y S1 (fun _ _ _ _ hq => a0m ag37 sz37 Y Y hq Y (i := 2) Y Y Yn) (d_tk 14 Y (by kernel_rfl) Y Y Y Y S1 (fun _ _ _ _ hq => a0m ag37 sz37 Y Y hq Y (i := 1) Y Y Yn) (a1b 15 Y (by kernel_rfl) ?_)))
 obtain ⟨v4, ir, g4⟩ := Yb g4
 refine a0i ent41 Y Y Y Y g6 (a7k _ _ _ _ ir g6.sat ((u.mono G).mono t) ((x.mono G).mono t) ((y.mono G).mono t) ((z.mono G).mono t)) ?_
 rintro _ k7 _ jh gt gj ⟨rfl, rfl⟩
 have S2 := gj.Ys (t.trans gt) [0, 2, 3] Y Y
 refine a0w S2 (d_tk 16 Y (by kernel_rfl) Y Y Y Y S2 (fun _ _ _ _ _ => a0u Y Y Y Y Y Yn) (d_tk 17 Y (by kernel_rfl) Y Y Y Y S2 (fun _ _ _ _ _ => a0n Y Y Y Y Yn) (b6a gr (by kernel_rfl) (fun a ha => ?_))))
 cases g4
 exact ⟨_, gt, gj.Yp [0, 1, 2, 3] Y Y, ha.cut (l := [6, 58, 67, 75]) Y⟩
 refine b5z 70 Y gi (d_of 13 Y (by kernel_rfl) Y Y Y S1 (d_of 14 Y (by kernel_rfl) Y Y Y S1 (d_of 15 Y (by kernel_rfl) Y Y Y S1 (d_of 16 Y (by kernel_rfl) Y Y Y S1 (d_tk 17 Y (by kernel_rfl) Y Y Y Y S1 (fun _ _ _ _ _ => a0k Y Y Y Y Yn) (b6a gr (by kernel_rfl) (fun a ha => ?_)))))))
 cases g4
 exact ⟨_, Yf, g6.Yp [0, 1, 2, 3] Y Y, ha.cut (l := [6, 58, 67, 75]) Y⟩
 clear hm
 rcases a0f g3 with ⟨gk, g3⟩ | ⟨gk, g3⟩
 refine b5z 61 Y gk (d_tk 4 Y (by kernel_rfl) Y Y Y Y S0 (fun _ _ _ _ hq => a0m ag37 sz37 Y Y hq Y (i := 2) Y Y Yn) (d_tk 5 Y (by kernel_rfl) Y Y Y Y S0 (fun _ _ _ _ hq => a0m ag37 sz37 Y Y hq Y (i := 1) Y Y Yn) (a1b 6 Y (by kernel_rfl) ?_)))
 obtain ⟨v5, it, g3⟩ := Yb g3
 refine a0i ent41 Y Y Y Y gc (a7k _ _ _ _ it gc.sat (u.mono G) (x.mono G) (y.mono G) (z.mono G)) ?_
 rintro _ k8 _ ji gu gl ⟨rfl, rfl⟩
 have S3 := gl.Ys gu [0, 2, 3] Y Y
 refine a0w S3 (d_tk 7 Y (by kernel_rfl) Y Y Y Y S3 (fun _ _ _ _ _ => a0u Y Y Y Y Y Yn) (d_tk 8 Y (by kernel_rfl) Y Y Y Y S3 (fun _ _ _ _ _ => a0n Y Y Y Y Yn) (b6a go (by kernel_rfl) (fun a ha => ?_))))
 cases g3
 exact ⟨_, gu, gl.Yp [0, 1, 2, 3] Y Y, ha.cut (l := [0, 4, 5, 6, 58, 66]) Y⟩
 refine b5z 61 Y gk (d_of 4 Y (by kernel_rfl) Y Y Y S0 (d_of 5 Y (by kernel_rfl) Y Y Y S0 (d_of 6 Y (by kernel_rfl) Y Y Y S0 (d_of 7 Y (by kernel_rfl) Y Y Y S0 (d_tk 8 Y (by kernel_rfl) Y Y Y Y S0 (fun _ _ _ _ _ => a0k Y Y Y Y Yn) (b6a go (by kernel_rfl) (fun a ha => ?_)))))))
 cases g3
 exact ⟨_, Yf, gc.Yp [0, 1, 2, 3] Y Y, ha.cut (l := [0, 4, 5, 6, 58, 66]) Y⟩
 clear hm
 refine a1i (a0h (a0a (a0u Y Y Y Y Y (a0b Y Y Y (a0g (a0c ?_))))))
 rcases a0f g with ⟨gm, g⟩ | ⟨gm, g⟩
 refine a0r 10 Y gm (a0y Y (a0a (a0m ag37 sz37 Y Y j Y (i := 3) Y Y (a0m ag37 sz37 Y Y j Y (i := 2) Y Y ?_))))
 obtain ⟨v6, iu, g⟩ := Yb g
 refine a0i ent111 Y Y Y Y j (c4s _ _ _ _ iu j.sat u x y z) ?_
 rintro _ k9 _ jj iv gz ⟨iw, ix, iy, iz, j0, j1, rfl, rfl, j2, j3⟩
 refine a0d Y Y Y (a0l Y Y Y Y (a0l Y Y Y Y (a0s sz37 Y gz Y Y Y Y (i := 0) Y Y Y Y ?_)))
 intro jk h0
 refine a0g (a1q (a0o (fun a ha => ?_)))
 cases g
 exact ⟨_, iw, ix, iy, iz, j0, j1, iv, h0.Yp [0, 1, 2, 3] Y Y, j2, j3, ha.cut (l := [0, 4, 5, 6, 7]) Y⟩
 refine a0r 10 Y gm (a0q Y (a0h (a0a (a0u Y Y Y Y Y (a0b Y Y Y (a0g (a0c ?_)))))))
 rcases a0f g with ⟨gn, g⟩ | ⟨gn, g⟩
 refine a0r 18 Y gn (a0y Y (a0a (a0m ag37 sz37 Y Y j Y (i := 3) Y Y (a0m ag37 sz37 Y Y j Y (i := 2) Y Y ?_))))
 obtain ⟨v7, j4, g⟩ := Yb g
 refine a0i ent112 Y Y Y Y j (c5m _ _ _ _ j4 j.sat u x y z) ?_
 rintro _ ka _ jl j5 h1 ⟨j6, j7, j8, h2, h3, h4, rfl, rfl, j9, h5⟩
 refine a0d Y Y Y (a0l Y Y Y Y (a0l Y Y Y Y (a0s sz37 Y h1 Y Y Y Y (i := 0) Y Y Y Y ?_)))
 intro jm h6
 refine a0g (a1q (a0o (fun a ha => ?_)))
 cases g
 exact ⟨_, j6, j7, j8, h2, h3, h4, j5, h6.Yp [0, 1, 2, 3] Y Y, j9, h5, ha.cut (l := [0, 4, 5, 6, 7]) Y⟩
 refine a0r 18 Y gn (a0q Y (a0h (a0a (a0u Y Y Y Y Y (a0b Y Y Y (a0g (a0c ?_)))))))
 rcases a0f g with ⟨g8, g⟩ | ⟨g8, g⟩
 refine a0r 26 Y g8 (a0y Y (a0a (a0m ag37 sz37 Y Y j Y (i := 3) Y Y (a0m ag37 sz37 Y Y j Y (i := 2) Y Y ?_))))
 obtain ⟨v8, ja, g⟩ := Yb g
 refine a0i ent113 Y Y Y Y j (c4j _ _ _ _ ja j.sat u x y z) ?_
 rintro _ kb _ jn jb h7 ⟨h8, h9, hb, hc, hd, he, rfl, rfl, hf, hg⟩
 refine a0d Y Y Y (a0l Y Y Y Y (a0l Y Y Y Y (a0s sz37 Y h7 Y Y Y Y (i := 0) Y Y Y Y ?_)))
 intro jo hh
 refine a0g (a1q (a0o (fun a ha => ?_)))
 cases g
 exact ⟨_, h8, h9, hb, hc, hd, he, jb, hh.Yp [0, 1, 2, 3] Y Y, hf, hg, ha.cut (l := [0, 4, 5, 6, 7]) Y⟩
 refine a0r 26 Y g8 (a0q Y (a0h (a0a (a0u Y Y Y Y Y (a0b Y Y Y (a0g (a0c ?_)))))))
 rcases a0f g with ⟨g9, g⟩ | ⟨g9, g⟩
 refine a0r 34 Y g9 (a0y Y (a0a (a0m ag37 sz37 Y Y j Y (i := 3) Y Y (a0m ag37 sz37 Y Y j Y (i := 2) Y Y ?_))))
 obtain ⟨v9, jc, g⟩ := Yb g
 refine a0i ent114 Y Y Y Y j (c5a _ _ _ _ jc j.sat u x y z) ?_
 rintro _ jp _ jq hi hj ⟨hk, hl, hn, ho, hp, hr, rfl, rfl, ht, hu⟩
 refine a0d Y Y Y (a0l Y Y Y Y (a0l Y Y Y Y (a0s sz37 Y hj Y Y Y Y (i := 0) Y Y Y Y ?_)))
 intro jr hv
 refine a0g (a1q (a0o (fun a ha => ?_)))
 cases g
 exact ⟨_, hk, hl, hn, ho, hp, hr, hi, hv.Yp [0, 1, 2, 3] Y Y, ht, hu, ha.cut (l := [0, 4, 5, 6, 7]) Y⟩
 refine a0r 34 Y g9 (a0q Y (a0h (a0a (a0u Y Y Y Y Y (a0b Y Y Y (a0g (a0c ?_)))))))
 rcases a0f g with ⟨ga, g⟩ | ⟨ga, g⟩
 refine a0r 42 Y ga (a0y Y (a0a (a0m ag37 sz37 Y Y j Y (i := 3) Y Y (a0m ag37 sz37 Y Y j Y (i := 2) Y Y ?_))))
 obtain ⟨v10, jd, g⟩ := Yb g
 refine a0i ent115 Y Y Y Y j (c5p _ _ _ _ jd j.sat u x y z) ?_
 rintro _ js _ jt hw hx ⟨hy, hz, i0, i1, i2, i3, rfl, rfl, i4, i5⟩
 refine a0d Y Y Y (a0l Y Y Y Y (a0l Y Y Y Y (a0s sz37 Y hx Y Y Y Y (i := 0) Y Y Y Y ?_)))
 intro ju i6
 refine a0g (a1q (a0o (fun a ha => ?_)))
 cases g
 exact ⟨_, hy, hz, i0, i1, i2, i3, hw, i6.Yp [0, 1, 2, 3] Y Y, i4, i5, ha.cut (l := [0, 4, 5, 6, 7]) Y⟩
 refine a0r 42 Y ga (a0q Y (a0h (a0a (a0u Y Y Y Y Y (a0b Y Y Y (a0g (a0c ?_)))))))
 rcases a0f g with ⟨gb, g⟩ | ⟨gb, g⟩
 refine a0r 50 Y gb (a0y Y (a0a (a0m ag37 sz37 Y Y j Y (i := 3) Y Y (a0m ag37 sz37 Y Y j Y (i := 2) Y Y ?_))))
 obtain ⟨v11, je, g⟩ := Yb g
 refine a0i ent116 Y Y Y Y j (c4u _ _ _ _ je j.sat u x y z) ?_
 rintro _ jv _ jw i7 i8 ⟨i9, ia, ib, ic, id, ie, rfl, rfl, ig, ih⟩
 refine a0d Y Y Y (a0l Y Y Y Y (a0l Y Y Y Y (a0s sz37 Y i8 Y Y Y Y (i := 0) Y Y Y Y ?_)))
 intro jx ii
 refine a0g (a1q (a0o (fun a ha => ?_)))
 cases g
 exact ⟨_, i9, ia, ib, ic, id, ie, i7, ii.Yp [0, 1, 2, 3] Y Y, ig, ih, ha.cut (l := [0, 4, 5, 6, 7]) Y⟩
 refine a0r 50 Y gb (a0q Y (a1c (a1q (a0o (fun a ha => ?_)))))
 cases g
 exact ⟨_, none, 0, 0, none, 0, 0, Yf, j.Yp [0, 1, 2, 3] Y Y, SlR.nil _ _, SlR.nil _ _, ha.cut (l := [0, 4, 5, 6, 7]) Y⟩
theorem ent75 : Ent Tryz.prog 75 := fun _ _ => by kernel_rfl
theorem u92 : Tryz.prog.underlying 92 = some (.slice 69) := by kernel_rfl
theorem fa69_1 : a6u Tryz.prog 69 1 4 := fun _ _ _ => by kernel_rfl
theorem ag4 : b0r Tryz.prog 4 false := fun _ => by kernel_rfl
theorem fa69_0 : a6u Tryz.prog 69 0 0 := fun _ _ _ => by kernel_rfl
theorem ent76 : Ent Tryz.prog 76 := fun _ _ => by kernel_rfl
theorem ent39 : Ent Tryz.prog 39 := fun _ _ => by kernel_rfl
theorem ap92 : AppIs Tryz.prog 92 69 5 72 := AppIs.of (z := .agg #[.int .i64 0, .slice none 0 0, .int .i64 0, .slice none 0 0, .bool false]) (by kernel_rfl) (by kernel_rfl) rfl (by decide) (by decide)
def a5u (n : Nat) (rec_ref36_Eval : Expr → (List Bs) → Facts → (List Frac) → Option Result) (x1 : Expr) (names1 : (List Bs)) (f1 : Facts) (weights1 : (List Frac)) (kont1 : (List Result) → Option Result) : Nat → Int → (List Result) → Option Result
 | 0, _, _ => none
 | mx1 + 1, i1, l1 =>
  bif decide (i1 < (x1.Args.length : Int)) then
   (ix x1.Args i1).bind fun ex11 =>
   (rec_ref36_Eval ex11 names1 f1 weights1).bind fun v5 =>
   (app 72 l1 [v5]).bind fun l3 =>
   a5u n rec_ref36_Eval x1 names1 f1 weights1 kont1 mx1 (iadd .i64 i1 1) l3
  else
   kont1 l1
theorem b2m (n : Nat) (rec_ref36_Eval : Expr → (List Bs) → Facts → (List Frac) → Option Result) (x1 : Expr) (names1 : (List Bs)) (f1 : Facts) (weights1 : (List Frac)) (kont1 : (List Result) → Option Result) (mx1 : Nat) (i1 : Int) (l1 : List Result) : a5u n rec_ref36_Eval x1 names1 f1 weights1 kont1 (mx1 + 1) i1 l1 =
  bif decide (i1 < (x1.Args.length : Int)) then
   (ix x1.Args i1).bind fun ex11 =>
   (rec_ref36_Eval ex11 names1 f1 weights1).bind fun v5 =>
   (app 72 l1 [v5]).bind fun l3 =>
   a5u n rec_ref36_Eval x1 names1 f1 weights1 kont1 mx1 (iadd .i64 i1 1) l3
  else
   kont1 l1 := rfl
def ref36_Eval : Nat → Expr → (List Bs) → Facts → (List Frac) → Option Result
 | 0, _, _, _, _ => none
 | n + 1, x1, names1, f1, weights1 =>
  bif (x1.Args.length : Int) == 0 then
   (b3m n x1 names1 f1 weights1).bind fun v1 =>
   some v1
  else
   a5u n (ref36_Eval n) x1 names1 f1 weights1 (fun (l2 : List Result) =>
    bif x1.Op == 11 then
     (ix l2 0).bind fun ex1 =>
     bif ex1.Is then
      (ix l2 1).bind fun ex2 =>
      some ex2
     else
      (ix l2 2).bind fun ex3 =>
      some ex3
    else
     bif x1.Op == 14 then
      (ix l2 0).bind fun ex4 =>
      some (⟨(⟨(⟨0, []⟩ : Big), (⟨0, []⟩ : Big)⟩ : Frac), !ex4.Is⟩ : Result)
     else
      bif x1.Op == 15 then
       (ix l2 0).bind fun ex5 =>
       (bif ex5.Is then
        (ix l2 1).bind fun ex6 =>
        some ex6.Is
       else
        some false).bind fun v2 =>
       some (⟨(⟨(⟨0, []⟩ : Big), (⟨0, []⟩ : Big)⟩ : Frac), v2⟩ : Result)
      else
       bif x1.Op == 16 then
        (ix l2 0).bind fun ex7 =>
        (bif ex7.Is then
         some true
        else
         (ix l2 1).bind fun ex8 =>
         some ex8.Is).bind fun v3 =>
        some (⟨(⟨(⟨0, []⟩ : Big), (⟨0, []⟩ : Big)⟩ : Frac), v3⟩ : Result)
       else
        (ix l2 0).bind fun ex9 =>
        (ix l2 1).bind fun ex10 =>
        (b1k n x1.Op ex9.N ex10.N).bind fun v4 =>
        some v4) n 0 []
theorem a7y (n : Nat) (x1 : Expr) (names1 : (List Bs)) (f1 : Facts) (weights1 : (List Frac)) : ref36_Eval (n + 1) x1 names1 f1 weights1 =
  bif (x1.Args.length : Int) == 0 then
   (b3m n x1 names1 f1 weights1).bind fun v1 =>
   some v1
  else
   a5u n (ref36_Eval n) x1 names1 f1 weights1 (fun (l2 : List Result) =>
    bif x1.Op == 11 then
     (ix l2 0).bind fun ex1 =>
     bif ex1.Is then
      (ix l2 1).bind fun ex2 =>
      some ex2
     else
      (ix l2 2).bind fun ex3 =>
      some ex3
    else
     bif x1.Op == 14 then
      (ix l2 0).bind fun ex4 =>
      some (⟨(⟨(⟨0, []⟩ : Big), (⟨0, []⟩ : Big)⟩ : Frac), !ex4.Is⟩ : Result)
     else
      bif x1.Op == 15 then
       (ix l2 0).bind fun ex5 =>
       (bif ex5.Is then
        (ix l2 1).bind fun ex6 =>
        some ex6.Is
       else
        some false).bind fun v2 =>
       some (⟨(⟨(⟨0, []⟩ : Big), (⟨0, []⟩ : Big)⟩ : Frac), v2⟩ : Result)
      else
       bif x1.Op == 16 then
        (ix l2 0).bind fun ex7 =>
        (bif ex7.Is then
         some true
        else
         (ix l2 1).bind fun ex8 =>
         some ex8.Is).bind fun v3 =>
        some (⟨(⟨(⟨0, []⟩ : Big), (⟨0, []⟩ : Big)⟩ : Frac), v3⟩ : Result)
       else
        (ix l2 0).bind fun ex9 =>
        (ix l2 1).bind fun ex10 =>
        (b1k n x1.Op ex9.N ex10.N).bind fun v4 =>
        some v4) n 0 [] := rfl
theorem c1v (n : Nat) : (∀ (x1 : Expr) (names1 : (List Bs)) (f1 : Facts) (weights1 : (List Frac)) (r : Result) (_ : ref36_Eval n x1 names1 f1 weights1 = some r) {w : World} {F : Frz} (_ : Sat F w) {t : Option Addr} {u : Nat} {o : Nat} {gg : Option Addr} {gh : Nat} {g1 : Nat} {g2 : Option Addr} {g3 : Nat} {H : Nat} {gi : Option Addr} {gj : Nat} {g4 : Nat} (_ : SlR rp_Expr F t u o x1.Args) (_ : SlR Rp.str F gg gh g1 names1) (_ : SlR (Rp.int .i64) F g2 g3 H f1.Lifts) (_ : SlR rp_Frac F gi gj g4 weights1), Calls Tryz.prog 39 #[.agg #[.int .i64 x1.Op, .int .i64 x1.N, vs x1.Name, .slice t u o], .slice gg gh g1, .agg #[.slice g2 g3 H, .int .i64 f1.Persons, .int .i64 f1.Flats], .slice gi gj g4] w fun e w' => ∃ v F' O', e = .returned v ∧ HS F w [] F' O' w' ∧ (∃ (a0_1 : Option Addr) (n0_1 : Nat) (c0_1 : Nat) (a0_3 : Option Addr) (n0_3 : Nat) (c0_3 : Nat), v = .agg #[.int .i64 r.N.P.Sign, .slice a0_1 n0_1 c0_1, .int .i64 r.N.Q.Sign, .slice a0_3 n0_3 c0_3, .bool r.Is] ∧ O' = [] ∧ SlR (Rp.int .i64) F' a0_1 n0_1 c0_1 r.N.P.Digits ∧ SlR (Rp.int .i64) F' a0_3 n0_3 c0_3 r.N.Q.Digits)) := by
 induction n with
 | zero =>
  intro x1 names1 f1 weights1 r hm
  exact absurd (show (none : Option Result) = some r from hm) (by simp)
 | succ n ih =>
  intro x1 names1 f1 weights1 r hm w F hs t u o gg gh g1 g2 g3 H gi gj g4 gk ho hp hr
  rw [a7y] at hm
  have h := HS.init hs
  refine a1a 99 Tryz.func39 Y Y Y (a0h (a0a (a2i Y Y Y Y h ?_)))
  intro b1 mk jm
  refine a2i Y Y Y Y jm ?_
  intro b2 ml jn
  refine a1f ze69 Y Y Y jn ?_
  intro b3 mm I
  refine a0g (a0c (a0h (a0h (a0a (a0e fa24_3 Y Y Y (a0p ag22 Y Y I Y (i := 2) Y Y (a1x gk.len u22 Y Y Y (a0u Y Y Y Y Y (a0g (a0c ?_))))))))))
  rcases a0f hm with ⟨gn, hm⟩ | ⟨gn, hm⟩
  refine a0r 14 Y gn (a0y Y (a0h (a0a (a0m ag24 sz24 Y Y I Y (i := 2) Y Y (a0d Y Y Y (a0m ag30 sz30 Y Y I Y (i := 1) Y Y (a0d Y Y Y ?_)))))))
  obtain ⟨v1, jo, hm⟩ := Yb hm
  refine a0i ent75 Y Y Y Y I (c3x _ _ _ _ _ _ jo I.sat gk ho hp hr) ?_
  rintro _ mn _ mo mp jp ⟨jq, jr, ht, js, jt, hu, rfl, rfl, ju, jv⟩
  refine a0s sz69 Y jp Y Y Y Y (i := 0) Y Y Y Y ?_
  intro mq hv
  refine a0g (a0c (a1d (a0j (a3y Y ag69 sz69 Y hv Y (i := 0) Y ?_))))
  obtain rfl := Yo hm
  exact ⟨_, _, _, Y, hv.Yp [] Y Y, jq, jr, ht, js, jt, hu, Y, Y, ju, jv⟩
  refine a0r 14 Y gn (a0q Y (a1c (a0c (a0h (a0a (a1v (e := 69) (cs := []) (q := 5) Y Y I Y (fun _ => by kernel_rfl) Y Y ?_))))))
  intro b4 mr jw
  refine a0b Y Y Y (a0g (a0c (a0h (a0h (a0a (a0b Y Y Y (a0g (a0c (a1i ?_)))))))))
  intro a he
  obtain ⟨kont1, hkont1⟩ : ∃ kont1 : (List Result) → Option Result, kont1 = (fun (l2 : List Result) => bif x1.Op == 11 then (ix l2 0).bind fun ex1 => bif ex1.Is then (ix l2 1).bind fun ex2 => some ex2 else (ix l2 2).bind fun ex3 => some ex3 else bif x1.Op == 14 then (ix l2 0).bind fun ex4 => some (⟨(⟨(⟨0, []⟩ : Big), (⟨0, []⟩ : Big)⟩ : Frac), !ex4.Is⟩ : Result) else bif x1.Op == 15 then (ix l2 0).bind fun ex5 => (bif ex5.Is then (ix l2 1).bind fun ex6 => some ex6.Is else some false).bind fun v2 => some (⟨(⟨(⟨0, []⟩ : Big), (⟨0, []⟩ : Big)⟩ : Frac), v2⟩ : Result) else bif x1.Op == 16 then (ix l2 0).bind fun ex7 => (bif ex7.Is then some true else (ix l2 1).bind fun ex8 => some ex8.Is).bind fun v3 => some (⟨(⟨(⟨0, []⟩ : Big), (⟨0, []⟩ : Big)⟩ : Frac), v3⟩ : Result) else (ix l2 0).bind fun ex9 => (ix l2 1).bind fun ex10 => (b1k n x1.Op ex9.N ex10.N).bind fun v4 => some v4) := ⟨_, Y⟩
  replace hm : (fun m (s : Int × List Result) => a5u n (ref36_Eval n) x1 names1 f1 weights1 kont1 m s.1 s.2) n (0, []) = some r := by rw [hkont1]; exact hm
  refine a5p (id := 0) (fun m (s : Int × List Result) => a5u n (ref36_Eval n) x1 names1 f1 weights1 kont1 m s.1 s.2) (fun (y : List Result) => kont1 y) r (fun (s : Int × List Result) a w' => ∃ (g5 : Frz) (gl : Option Addr) (J : Nat) (g6 : Nat) (xss7 : List Value), Frz.le F g5 ∧ HS F w [] g5 [.row 69 5 gl J g6 xss7, .box b3 69 [.int .i64 0, .slice none 0 0, .int .i64 0, .slice none 0 0, .bool false], .box b2 30 [.slice g2 g3 H, .int .i64 f1.Persons, .int .i64 f1.Flats], .box b1 24 [.int .i64 x1.Op, .int .i64 x1.N, vs x1.Name, .slice t u o]] w' ∧ (RowN rp_Result g5 J xss7 s.2) ∧ Has 99 a [(1, .slice gg gh g1), (3, .slice gi gj g4), (4, .pointer (some ⟨b1, 0, none⟩)), (6, .pointer (some ⟨b2, 0, none⟩)), (8, .pointer (some ⟨b3, 0, none⟩)), (9, .slice gl J g6), (10, .int .i64 s.1)]) (fun (y : List Result) a w' => ∃ (g7 : Frz) (gm : Option Addr) (g8 : Nat) (g9 : Nat) (xss8 : List Value), Frz.le F g7 ∧ HS F w [] g7 [.row 69 5 gm g8 g9 xss8, .box b3 69 [.int .i64 0, .slice none 0 0, .int .i64 0, .slice none 0 0, .bool false], .box b1 24 [.int .i64 x1.Op, .int .i64 x1.N, vs x1.Name, .slice t u o]] w' ∧ (RowN rp_Result g7 g8 xss8 y) ∧ Has 99 a [(4, .pointer (some ⟨b1, 0, none⟩)), (8, .pointer (some ⟨b3, 0, none⟩)), (9, .slice gm g8 g9)]) (fun _ => Y) ?_ ?_ hm ⟨_, (some ⟨b4, 0, none⟩), 0, 0, [], Yf, jw.Yp [0, 1, 2, 3] Y Y, ((show RowN rp_Result F 0 [] [] from ⟨Y, (Y : RowR rp_Result _ [] [])⟩)), he.cut (l := [1, 3, 4, 6, 8, 9, 10]) Y⟩
  clear hm; rintro l2 a hw hm ⟨g7, gm, g8, g9, xss8, ms, g, k, i0⟩
  rw [hkont1] at hm
  replace hm := hm
  refine a2g (e := .exit 0) i0 (a1k (a0c (a0h (a0h (a0a (a0e fa24_0 Y Y Y (a0p ag3 Y Y g Y (i := 2) Y Y (a0g (a0c (a1i (a0h (a0a (a0u Y Y Y Y Y (a0b Y Y Y (a0g (a0c ?_))))))))))))))))
  rcases a0f hm with ⟨go, hm⟩ | ⟨go, hm⟩
  refine a0r 42 Y go (a0y Y (a0h (a0h (a0a (a0d Y Y Y ?_)))))
  obtain ⟨ex1, jx, hm⟩ := Yb hm
  refine a4b (r := rp_Result) u92 sz69 Y Y g Y Y (p := 0) Y Y k jx ?_
  intro b5 o1 o i2 ho1 jy hp1
  obtain ⟨mt, mu, jz, kt, ku, i3, k0, mv, kv⟩ := jy
  subst k0
  refine a0e fa69_1 Y Y Y (a4f (j := 4) ag4 Y Y g Y (p := 0) Y Y i2 ho1 hp1 Y (a0g (a0c ?_)))
  rcases a0f hm with ⟨gp, hm⟩ | ⟨gp, hm⟩
  refine a0r 47 Y gp (a0y Y (a0h (a0a (a0d Y Y Y ?_))))
  obtain ⟨ex2, k1, hm⟩ := Yb hm
  refine a4b (r := rp_Result) u92 sz69 Y Y g Y Y (p := 0) Y Y k k1 ?_
  intro b6 o2 g1 i4 ho2 k2 hp2
  obtain ⟨gq, gr, ga, gs, gt, gu, k3, i5, i6⟩ := k2
  subst k3
  refine b9n (j := 0) (cs' := [.int .i64 ex2.N.P.Sign, .slice gq gr ga, .int .i64 ex2.N.Q.Sign, .slice gs gt gu, .bool ex2.Is]) ag69 sz69 Y Y g Y (p := 0) Y Y i4 ho2 hp2 Y Y (a0s sz69 Y g Y Y Y Y (i := 1) Y Y Y Y ?_)
  intro mw hx
  refine a0g (a0c (a1d (a0j (a0v (a0j (a3y Y ag69 sz69 Y hx Y (i := 1) Y ?_))))))
  obtain rfl := Yo hm
  exact ⟨_, _, _, Y, hx.Yp [] Y Y, gq, gr, ga, gs, gt, gu, Y, Y, i5, i6⟩
  refine a0r 47 Y gp (a0q Y (a1c (a0c (a0h (a0a (a0d Y Y Y ?_))))))
  obtain ⟨ex3, k4, hm⟩ := Yb hm
  refine a4b (r := rp_Result) u92 sz69 Y Y g Y Y (p := 0) Y Y k k4 ?_
  intro b7 o3 H i7 ho3 k5 hp3
  obtain ⟨gv, gw, gx, gy, gz, h0, k6, i8, i9⟩ := k5
  subst k6
  refine b9n (j := 0) (cs' := [.int .i64 ex3.N.P.Sign, .slice gv gw gx, .int .i64 ex3.N.Q.Sign, .slice gy gz h0, .bool ex3.Is]) ag69 sz69 Y Y g Y (p := 0) Y Y i7 ho3 hp3 Y Y (a0s sz69 Y g Y Y Y Y (i := 1) Y Y Y Y ?_)
  intro mx h1
  refine a0g (a0c (a1d (a0v (a0j (a3y Y ag69 sz69 Y h1 Y (i := 1) Y ?_)))))
  obtain rfl := Yo hm
  exact ⟨_, _, _, Y, h1.Yp [] Y Y, gv, gw, gx, gy, gz, h0, Y, Y, i8, i9⟩
  refine a0r 42 Y go (a0q Y (a0h (a0a (a0u Y Y Y Y Y (a0b Y Y Y (a0g (a0c ?_)))))))
  rcases a0f hm with ⟨h2, hm⟩ | ⟨h2, hm⟩
  refine a0r 54 Y h2 (a0y Y (a0h (a0a (a0d Y Y Y ?_))))
  obtain ⟨ex4, k7, hm⟩ := Yb hm
  refine a4b (r := rp_Result) u92 sz69 Y Y g Y Y (p := 0) Y Y k k7 ?_
  intro b8 o4 g4 ia ho4 k8 hp4
  obtain ⟨kw, kx, ky, kz, l0, l4, k9, l5, l6⟩ := k8
  subst k9
  refine a0e fa69_1 Y Y Y (a4f (j := 4) ag4 Y Y g Y (p := 0) Y Y ia ho4 hp4 Y (a3d Y Y Y (a1y (v := .agg #[.int .i64 0, .slice none 0 0, .int .i64 0, .slice none 0 0, .bool (!ex4.Is)]) Y Y Y (fun _ => by kernel_rfl) (a0s sz69 Y g Y Y Y Y (i := 1) Y Y Y Y ?_))))
  intro l7 h3
  refine a0g (a0c (a1d (a0v (a0j (a3y Y ag69 sz69 Y h3 Y (i := 1) Y ?_)))))
  obtain rfl := Yo hm
  exact ⟨_, _, _, Y, h3.Yp [] Y Y, none, 0, 0, none, 0, 0, Y, Y, SlR.nil _ _, SlR.nil _ _⟩
  refine a0r 54 Y h2 (a0q Y (a0h (a0a (a0u Y Y Y Y Y (a0b Y Y Y (a0g (a0c ?_)))))))
  rcases a0f hm with ⟨h4, hm⟩ | ⟨h4, hm⟩
  refine a0r 62 Y h4 (a0y Y (a0h (a0a (a0d Y Y Y ?_))))
  obtain ⟨ex5, ka, hm⟩ := Yb hm
  refine a4b (r := rp_Result) u92 sz69 Y Y g Y Y (p := 0) Y Y k ka ?_
  intro b9 o5 ht ib ho5 kb hp5
  obtain ⟨l8, l9, la, lb, lc, ld, kc, lf, lg⟩ := kb
  subst kc
  refine a0e fa69_1 Y Y Y (a4f (j := 4) ag4 Y Y g Y (p := 0) Y Y ib ho5 hp5 Y (a0d Y Y Y ?_))
  obtain ⟨v2, x, hm⟩ := Yb hm
  refine a1z 5 (fun a w' => hw = w' ∧ Has 99 a [(8, .pointer (some ⟨b3, 0, none⟩)), (73, .bool v2)]) ?_ ?_
  rintro a lh ⟨rfl, ic⟩
  refine a0z ic (a1y (v := .agg #[.int .i64 0, .slice none 0 0, .int .i64 0, .slice none 0 0, .bool v2]) Y Y Y (fun _ => by kernel_rfl) (a0s sz69 Y g Y Y Y Y (i := 1) Y Y Y Y ?_))
  intro li h5
  refine a0g (a0c (a1d (a0v (a0j (a3y Y ag69 sz69 Y h5 Y (i := 1) Y ?_)))))
  obtain rfl := Yo hm
  exact ⟨_, _, _, Y, h5.Yp [] Y Y, none, 0, 0, none, 0, 0, Y, Y, SlR.nil _ _, SlR.nil _ _⟩
  clear hm
  rcases a0f x with ⟨h6, x⟩ | ⟨h6, x⟩
  refine a1g 68 Y h6 (a0d Y Y Y ?_)
  obtain ⟨ex6, kd, x⟩ := Yb x
  refine a4b (r := rp_Result) u92 sz69 Y Y g Y Y (p := 0) Y Y k kd ?_
  intro b10 o6 hu ie ho6 ke hp6
  obtain ⟨lj, lk, ll, lm, ln, lo, kf, lp, lq⟩ := ke
  subst kf
  refine a0e fa69_1 Y Y Y (a4f (j := 4) ag4 Y Y g Y (p := 0) Y Y ie ho6 hp6 Y (a0n Y Y Y Y (a0g (a0o (fun a ha => ?_)))))
  cases x
  exact ⟨Y, ha.cut (l := [8, 73]) Y⟩
  refine a1g 68 Y h6 (a0t Y (by decide) Y (a0t Y (by decide) Y (a0t Y (by decide) Y (a0t Y (by decide) Y (a0k Y Y Y Y (a0g (a0o (fun a ha => ?_))))))))
  cases x
  exact ⟨Y, ha.cut (l := [8, 73]) Y⟩
  refine a0r 62 Y h4 (a0q Y (a0h (a0a (a0u Y Y Y Y Y (a0b Y Y Y (a0g (a0c ?_)))))))
  rcases a0f hm with ⟨h7, hm⟩ | ⟨h7, hm⟩
  refine a0r 75 Y h7 (a0y Y (a0h (a0a (a0d Y Y Y ?_))))
  obtain ⟨ex7, kg, hm⟩ := Yb hm
  refine a4b (r := rp_Result) u92 sz69 Y Y g Y Y (p := 0) Y Y k kg ?_
  intro b11 o7 g6 ig ho7 kh hp7
  obtain ⟨lr, ls, lt, lu, lv, lw, ki, lx, ly⟩ := kh
  subst ki
  refine a0e fa69_1 Y Y Y (a4f (j := 4) ag4 Y Y g Y (p := 0) Y Y ig ho7 hp7 Y (a0d Y Y Y ?_))
  obtain ⟨v3, z, hm⟩ := Yb hm
  refine a1z 5 (fun a w' => hw = w' ∧ Has 99 a [(8, .pointer (some ⟨b3, 0, none⟩)), (86, .bool v3)]) ?_ ?_
  rintro a lz ⟨rfl, hf⟩
  refine a0z hf (a1y (v := .agg #[.int .i64 0, .slice none 0 0, .int .i64 0, .slice none 0 0, .bool v3]) Y Y Y (fun _ => by kernel_rfl) (a0s sz69 Y g Y Y Y Y (i := 1) Y Y Y Y ?_))
  intro m0 h8
  refine a0g (a0c (a1d (a0v (a0j (a3y Y ag69 sz69 Y h8 Y (i := 1) Y ?_)))))
  obtain rfl := Yo hm
  exact ⟨_, _, _, Y, h8.Yp [] Y Y, none, 0, 0, none, 0, 0, Y, Y, SlR.nil _ _, SlR.nil _ _⟩
  clear hm
  rcases a0f z with ⟨gb, z⟩ | ⟨gb, z⟩
  refine a1g 81 Y gb (a0t Y (by decide) Y (a0t Y (by decide) Y (a0t Y (by decide) Y (a0t Y (by decide) Y (a0n Y Y Y Y (a0g (a0o (fun a ha => ?_))))))))
  cases z
  exact ⟨Y, ha.cut (l := [8, 86]) Y⟩
  refine a1g 81 Y gb (a0d Y Y Y ?_)
  obtain ⟨ex8, kj, z⟩ := Yb z
  refine a4b (r := rp_Result) u92 sz69 Y Y g Y Y (p := 0) Y Y k kj ?_
  intro b12 o8 g9 hg ho8 kk hp8
  obtain ⟨m1, m2, m3, m4, m5, m6, kl, m7, m8⟩ := kk
  subst kl
  refine a0e fa69_1 Y Y Y (a4f (j := 4) ag4 Y Y g Y (p := 0) Y Y hg ho8 hp8 Y (a0k Y Y Y Y (a0g (a0o (fun a ha => ?_)))))
  cases z
  exact ⟨Y, ha.cut (l := [8, 86]) Y⟩
  refine a0r 75 Y h7 (a0q Y (a1c (a1q (a0c (a0h (a2l (SH g7 [.row 69 5 gm g8 g9 xss8, .box b1 24 [.int .i64 x1.Op, .int .i64 x1.N, vs x1.Name, .slice t u o]]) 12 Y (by kernel_rfl) g ?_))))))
  intro m9 G
  have S0 := G.Ys Yf [0, 2] Y Y
  refine d_tk 0 Y (by kernel_rfl) Y Y Y Y S0 (fun _ _ _ _ _ => a0e fa24_0 Y Y Y Yn) (d_tk 1 Y (by kernel_rfl) Y Y Y Y S0 (fun _ _ _ _ hq => a0p ag3 Y Y hq Y (i := 1) Y Y Yn) (d_tk 2 Y (by kernel_rfl) Y Y Y Y S0 (fun _ _ _ _ _ => a0d Y Y Y Yn) ?_))
  obtain ⟨ex9, km, hm⟩ := Yb hm
  obtain ⟨b13, o9, jz, hh, ho9, kn, hp9, hi⟩ := a6p (P := Tryz.prog) (r := rp_Result) u92 sz69 G (p := 0) Y Y k km
  obtain ⟨ii, ij, ik, il, im, io, ko, ip, iq⟩ := kn
  subst ko
  refine b1v 3 Y (by kernel_rfl) (by kernel_rfl) (by kernel_rfl) Y Y Y Y hi S0 (d_tk 4 Y (by kernel_rfl) Y Y Y Y S0 (fun _ _ _ _ _ => a0e fa69_0 Y Y Y Yn) (d_tk 5 Y (by kernel_rfl) Y Y Y Y S0 (fun _ _ _ _ hq => b9n (j := 0) (cs' := [.int .i64 ex9.N.P.Sign, .slice ii ij ik, .int .i64 ex9.N.Q.Sign, .slice il im io]) ag37 sz37 Y Y hq Y (p := 0) Y Y hh ho9 hp9 Y Y Yn) (d_tk 6 Y (by kernel_rfl) Y Y Y Y S0 (fun _ _ _ _ _ => a0d Y Y Y Yn) ?_)))
  obtain ⟨ex10, ir, hm⟩ := Yb hm
  obtain ⟨b14, o10, i3, hj, ho10, it, hp10, hk⟩ := a6p (P := Tryz.prog) (r := rp_Result) u92 sz69 G (p := 0) Y Y k ir
  obtain ⟨iu, iv, iw, iy, iz, j0, j1, j2, j3⟩ := it
  subst j1
  refine b1v 7 Y (by kernel_rfl) (by kernel_rfl) (by kernel_rfl) Y Y Y Y hk S0 (d_tk 8 Y (by kernel_rfl) Y Y Y Y S0 (fun _ _ _ _ _ => a0e fa69_0 Y Y Y Yn) (d_tk 9 Y (by kernel_rfl) Y Y Y Y S0 (fun _ _ _ _ hq => b9n (j := 0) (cs' := [.int .i64 ex10.N.P.Sign, .slice iu iv iw, .int .i64 ex10.N.Q.Sign, .slice iy iz j0]) ag37 sz37 Y Y hq Y (p := 0) Y Y hj ho10 hp10 Y Y Yn) (a1b 10 Y (by kernel_rfl) ?_)))
  obtain ⟨v4, kp, hm⟩ := Yb hm
  refine a0i ent76 Y Y Y Y G (c4n _ _ _ _ _ kp G.sat ip iq j2 j3) ?_
  rintro _ my _ ma hy h9 ⟨j4, j5, j6, j7, j8, j9, rfl, rfl, ja, jb⟩
  refine a0w (h9.Ys hy [0, 2] Y Y) (a1b 11 Y (by kernel_rfl) (a0s sz69 Y h9 Y Y Y Y (i := 1) Y Y Y Y ?_))
  intro mb gc
  refine a0w (gc.Ys hy [0, 2] Y Y) (a2x (by kernel_rfl) (a0c (a1d (a3y Y ag69 sz69 Y gc Y (i := 1) Y ?_))))
  obtain rfl := Yo hm
  exact ⟨_, _, _, Y, gc.Yp [] Y Y, j4, j5, j6, j7, j8, j9, Y, Y, ja, jb⟩
  clear hm hkont1; intro hk1 mx1 K ihx1
  rintro ⟨i1, l1⟩ a mc hm ⟨g5, gl, J, g6, xss7, L, hb, hz, hl⟩
  simp only [b2m] at hm
  refine a1n hl (a0h (a0h (a0a (a0d Y Y Y (a0e fa24_3 Y Y Y (a0p ag22 Y Y hb Y (i := 3) Y Y (a1x gk.len u22 Y Y Y (a0u Y Y Y Y Y (a0g (a0c ?_))))))))))
  rcases a0f hm with ⟨gd, hm⟩ | ⟨gd, hm⟩
  refine a0r 25 Y gd (a0y Y (a1c (a0c (a0h (a1i (a2l (SH g5 [.box b3 69 [.int .i64 0, .slice none 0 0, .int .i64 0, .slice none 0 0, .bool false], .box b2 30 [.slice g2 g3 H, .int .i64 f1.Persons, .int .i64 f1.Flats], .box b1 24 [.int .i64 x1.Op, .int .i64 x1.N, vs x1.Name, .slice t u o]]) 13 Y (by kernel_rfl) hb ?_))))))
  intro md ge
  have S1 := ge.Ys Yf [1, 2, 3] Y Y
  refine d_tk 0 Y (by kernel_rfl) Y Y Y Y S1 (fun _ _ _ _ _ => a0d Y Y Y Yn) (d_tk 1 Y (by kernel_rfl) Y Y Y Y S1 (fun _ _ _ _ _ => a0e fa24_3 Y Y Y Yn) (d_tk 2 Y (by kernel_rfl) Y Y Y Y S1 (fun _ _ _ _ hq => a0p ag22 Y Y hq Y (i := 2) Y Y Yn) (d_tk 3 Y (by kernel_rfl) Y Y Y Y S1 (fun _ _ _ _ _ => a0d Y Y Y Yn) ?_)))
  obtain ⟨ex11, jc, hm⟩ := Yb hm
  obtain ⟨b15, o11, ga, kq, jd, hn⟩ := a2j (P := Tryz.prog) (r := rp_Expr) u22 sz24 (gk.mono L) jc
  obtain ⟨me, mf, mg, je, jf⟩ := expr_iff.1 jd
  subst je
  refine b1v 4 Y (by kernel_rfl) (by kernel_rfl) (by kernel_rfl) Y Y Y Y hn S1 (d_tk 5 Y (by kernel_rfl) Y Y Y Y S1 (fun _ _ _ hleq hq => a4g ag24 sz24 Y Y hq (kq.mono hleq) Y Y Yn) (d_tk 6 Y (by kernel_rfl) Y Y Y Y S1 (fun _ _ _ _ _ => a0d Y Y Y Yn) (d_tk 7 Y (by kernel_rfl) Y Y Y Y S1 (fun _ _ _ _ hq => a0m ag30 sz30 Y Y hq Y (i := 1) Y Y Yn) (d_tk 8 Y (by kernel_rfl) Y Y Y Y S1 (fun _ _ _ _ _ => a0d Y Y Y Yn) (a1b 9 Y (by kernel_rfl) ?_)))))
  obtain ⟨v5, kr, hm⟩ := Yb hm
  refine a0i ent39 Y Y Y Y ge (ih _ _ _ _ _ kr ge.sat jf (ho.mono L) (hp.mono L) (hr.mono L)) ?_
  rintro _ ks _ mh M hc ⟨R, T, U, V, Z, g0, rfl, rfl, jg, jh⟩
  refine a0w (hc.Ys M [1, 2, 3] Y Y) (a1b 10 Y (by kernel_rfl) (a1v (e := 69) (cs := [.int .i64 v5.N.P.Sign, .slice R T U, .int .i64 v5.N.Q.Sign, .slice V Z g0, .bool v5.Is]) (q := 5) Y Y hc Y (fun _ => by kernel_rfl) Y Y ?_))
  intro b16 mi hd
  refine a0w (hd.Ys M [2, 3, 4] Y Y) (a1b 11 Y (by kernel_rfl) ?_)
  obtain ⟨l3, ji, hm⟩ := Yb hm
  refine a9y (r := rp_Result) ap92 Y Y hd Y Y (i := 1) (j := 0) Y Y (hz.mono M) ((show RowN rp_Result ks 1 [.int .i64 v5.N.P.Sign, .slice R T U, .int .i64 v5.N.Q.Sign, .slice V Z g0, .bool v5.Is] [v5] from ⟨Y, ⟨_, _, Y, ⟨R, T, U, V, Z, g0, Y, jg, jh⟩, (Y : RowR rp_Result _ [] [])⟩⟩)) ji ?_
  intro jj jk mj gf jl
  refine a0w (gf.Ys M [2, 3, 4] Y Y) (d_tk 12 Y (by kernel_rfl) Y Y Y Y (gf.Ys M [2, 3, 4] Y Y) (fun _ _ _ _ _ => a0b Y Y Y Yn) (a2x (by kernel_rfl) (a1q (a0c (a0a (a0d Y Y Y (a0u Y Y Y Y Y (a0b Y Y Y (a0g (a0o (fun a ha => ihx1 ((iadd .i64 i1 1), l3) a _ hm ?_)))))))))))
  exact ⟨_, jj, (J + 1), jk, (xss7 ++ [.int .i64 v5.N.P.Sign, .slice R T U, .int .i64 v5.N.Q.Sign, .slice V Z g0, .bool v5.Is]), (L.trans M), gf.Yp [1, 2, 3, 4] Y Y, jl, ha.cut (l := [1, 3, 4, 6, 8, 9, 10]) Y⟩
  refine a0r 25 Y gd (a0q Y (a3p (a0x (a0x (fun a ha => hk1 l1 a _ hm ?_)))))
  exact ⟨_, gl, J, g6, xss7, L, hb.Yp [0, 1, 3] Y Y, hz, ha.cut (l := [4, 8, 9]) Y⟩
theorem c4e (n : Nat) (x1 : Expr) (names1 : (List Bs)) (f1 : Facts) (weights1 : (List Frac)) (r : Result) (hm : ref36_Eval n x1 names1 f1 weights1 = some r) {w : World} {F : Frz} (hs : Sat F w) {g h i j : Option Addr} {k l m o p q s t : Nat} (u : SlR rp_Expr F g k l x1.Args) (x : SlR Rp.str F h m o names1) (y : SlR (Rp.int .i64) F i p q f1.Lifts) (z : SlR rp_Frac F j s t weights1) :
  Calls Tryz.prog 39 #[.agg #[.int .i64 x1.Op, .int .i64 x1.N, vs x1.Name, .slice g k l], .slice h m o, .agg #[.slice i p q, .int .i64 f1.Persons, .int .i64 f1.Flats], .slice j s t] w fun e w' => ∃ v F' O', e = .returned v ∧ HS F w [] F' O' w' ∧ (∃ (a0_1 : Option Addr) (n0_1 : Nat) (c0_1 : Nat) (a0_3 : Option Addr) (n0_3 : Nat) (c0_3 : Nat), v = .agg #[.int .i64 r.N.P.Sign, .slice a0_1 n0_1 c0_1, .int .i64 r.N.Q.Sign, .slice a0_3 n0_3 c0_3, .bool r.Is] ∧ O' = [] ∧ SlR (Rp.int .i64) F' a0_1 n0_1 c0_1 r.N.P.Digits ∧ SlR (Rp.int .i64) F' a0_3 n0_3 c0_3 r.N.Q.Digits) :=
 (c1v n) x1 names1 f1 weights1 r hm hs u x y z
theorem ent36 : Ent Tryz.prog 36 := fun _ _ => by kernel_rfl
theorem ent37 : Ent Tryz.prog 37 := fun _ _ => by kernel_rfl
theorem ent38 : Ent Tryz.prog 38 := fun _ _ => by kernel_rfl
def a6e (n : Nat) (t1 : Tariff) (names1 : (List Bs)) (f1 : Facts) (weights1 : (List Frac)) : Option (Frac × Int) :=
 (b3r n t1 names1).bind fun v1 =>
 bif v1 != 0 then
  some ((⟨(⟨0, []⟩ : Big), (⟨0, []⟩ : Big)⟩ : Frac), v1)
 else
  (b3n n f1 (names1.length : Int)).bind fun v2 =>
  (bif !v2 then
   some true
  else
   (b1s n weights1 (names1.length : Int)).bind fun v5 =>
   some (!v5)).bind fun v3 =>
  bif v3 then
   some ((⟨(⟨0, []⟩ : Big), (⟨0, []⟩ : Big)⟩ : Frac), 1)
  else
   (ref36_Eval n t1.Fee names1 f1 weights1).bind fun v4 =>
   some (v4.N, 0)
theorem b6f (n : Nat) (t1 : Tariff) (names1 : (List Bs)) (f1 : Facts) (weights1 : (List Frac)) (r : (Frac × Int)) (hm : a6e n t1 names1 f1 weights1 = some r) {w : World} {F : Frz} (hs : Sat F w) {o K L M : Option Addr} {p q R T U V Z g0 : Nat} (g8 : SlR rp_Expr F o p q t1.Fee.Args) (s : SlR Rp.str F K R T names1) (g9 : SlR (Rp.int .i64) F L U V f1.Lifts) (ga : SlR rp_Frac F M Z g0 weights1) :
  Calls Tryz.prog 9 #[.agg #[vs t1.Name, .int .i64 t1.Fee.Op, .int .i64 t1.Fee.N, vs t1.Fee.Name, .slice o p q, .int .i64 t1.Cap], .slice K R T, .agg #[.slice L U V, .int .i64 f1.Persons, .int .i64 f1.Flats], .slice M Z g0] w fun e w' => ∃ v F' O', e = .returned v ∧ HS F w [] F' O' w' ∧ (∃ (a0_1 : Option Addr) (n0_1 : Nat) (c0_1 : Nat) (a0_3 : Option Addr) (n0_3 : Nat) (c0_3 : Nat), v = .tuple #[.agg #[.int .i64 r.1.P.Sign, .slice a0_1 n0_1 c0_1, .int .i64 r.1.Q.Sign, .slice a0_3 n0_3 c0_3], .int .i64 r.2] ∧ O' = [] ∧ SlR (Rp.int .i64) F' a0_1 n0_1 c0_1 r.1.P.Digits ∧ SlR (Rp.int .i64) F' a0_3 n0_3 c0_3 r.1.Q.Digits) := by
 unfold a6e at hm
 have h := HS.init hs
 refine a1a 38 Tryz.func9 Y Y Y (a0h (a0a (a2i Y Y Y Y h ?_)))
 intro b1 gs gf
 refine a2i Y Y Y Y gf ?_
 intro b2 gt gg
 refine a1f ze37 Y Y Y gg ?_
 intro b3 gu g1
 refine a0b Y Y Y (a0g (a0c (a0h (a0a (a0m ag26 sz26 Y Y g1 Y (i := 2) Y Y (a0d Y Y Y ?_))))))
 obtain ⟨v1, gh, hm⟩ := Yb hm
 refine a0i ent36 Y Y Y Y g1 (c1w _ _ _ _ gh g1.sat g8 s) ?_
 rintro _ gv _ gw j t ⟨rfl, rfl⟩
 refine a0b Y Y Y (a0g (a0c (a0h (a0h (a0a (a0d Y Y Y (a0u Y Y Y Y Y (a0g (a0c ?_)))))))))
 rcases a0f hm with ⟨g2, hm⟩ | ⟨g2, hm⟩
 refine a0r 15 Y g2 (a0y Y (a0h (a0a (a1y (v := .agg #[.int .i64 0, .slice none 0 0, .int .i64 0, .slice none 0 0]) Y Y Y (fun _ => by kernel_rfl) (a0d Y Y Y (a0s sz37 Y t Y Y Y Y (i := 0) Y Y Y Y ?_))))))
 intro gx gb
 refine a0b Y Y Y (a0g (a0c (a1d (a0j (a1o (vl := [.agg #[.int .i64 0, .slice none 0 0, .int .i64 0, .slice none 0 0], .int .i64 v1]) Y ⟨a2d ag37 sz37 Y gb Y (i := 0) Y, a1r Y, trivial⟩ (by simp) ?_)))))
 obtain rfl := Yo hm
 exact ⟨_, _, _, Y, gb.Yp [] Y Y, none, 0, 0, none, 0, 0, Y, Y, SlR.nil _ _, SlR.nil _ _⟩
 refine a0r 15 Y g2 (a0q Y (a1c (a0c (a0h (a0h (a0a (a0m ag30 sz30 Y Y t Y (i := 1) Y Y (a0d Y Y Y (a1x s.len u27 Y Y Y ?_)))))))))
 obtain ⟨v2, gi, hm⟩ := Yb hm
 refine a0i ent37 Y Y Y Y t (c1z _ _ _ _ gi t.sat (g9.mono j)) ?_
 rintro _ gj _ gy k g3 ⟨rfl, rfl⟩
 refine a3d Y Y Y (a0d Y Y Y ?_)
 obtain ⟨v3, g, hm⟩ := Yb hm
 refine a1z 6 (fun a w' => ∃ (g4 : Frz), Frz.le gj g4 ∧ HS F w [] g4 [.box b3 37 [.int .i64 0, .slice none 0 0, .int .i64 0, .slice none 0 0], .box b2 30 [.slice L U V, .int .i64 f1.Persons, .int .i64 f1.Flats], .box b1 26 [vs t1.Name, .int .i64 t1.Fee.Op, .int .i64 t1.Fee.N, vs t1.Fee.Name, .slice o p q, .int .i64 t1.Cap]] w' ∧ Has 38 a [(1, .slice K R T), (3, .slice M Z g0), (4, .pointer (some ⟨b1, 0, none⟩)), (6, .pointer (some ⟨b2, 0, none⟩)), (8, .pointer (some ⟨b3, 0, none⟩)), (29, .bool v3)]) ?_ ?_
 rintro a gz ⟨g4, x, m, gd⟩
 refine a0z gd (a0g (a0c ?_))
 rcases a0f hm with ⟨g5, hm⟩ | ⟨g5, hm⟩
 refine a0r 29 Y g5 (a0y Y (a0h (a0a (a1y (v := .agg #[.int .i64 0, .slice none 0 0, .int .i64 0, .slice none 0 0]) Y Y Y (fun _ => by kernel_rfl) (a0s sz37 Y m Y Y Y Y (i := 0) Y Y Y Y ?_)))))
 intro h0 gc
 refine a0b Y Y Y (a0g (a0c (a1d (a0j (a1o (vl := [.agg #[.int .i64 0, .slice none 0 0, .int .i64 0, .slice none 0 0], .int .i64 1]) Y ⟨a2d ag37 sz37 Y gc Y (i := 0) Y, a1r Y, trivial⟩ (by simp) ?_)))))
 obtain rfl := Yo hm
 exact ⟨_, _, _, Y, gc.Yp [] Y Y, none, 0, 0, none, 0, 0, Y, Y, SlR.nil _ _, SlR.nil _ _⟩
 refine a0r 29 Y g5 (a0q Y (a1c (a0c (a0h (a0a (a0e fa26_1 Y Y Y (a1u (cs' := [.int .i64 t1.Fee.Op, .int .i64 t1.Fee.N, vs t1.Fee.Name, .slice o p q]) ag24 sz24 Y Y m Y (i := 2) Y Y Y (a0d Y Y Y (a0m ag30 sz30 Y Y m Y (i := 1) Y Y (a0d Y Y Y ?_))))))))))
 obtain ⟨v4, gk, hm⟩ := Yb hm
 refine a0i ent39 Y Y Y Y m (c4e _ _ _ _ _ _ gk m.sat (((g8.mono j).mono k).mono x) (((s.mono j).mono k).mono x) (((g9.mono j).mono k).mono x) (((ga.mono j).mono k).mono x)) ?_
 rintro _ h1 _ h2 h3 gl ⟨y, z, G, H, I, J, rfl, rfl, gm, gn⟩
 refine d4l (v := .agg #[.int .i64 v4.N.P.Sign, .slice y z G, .int .i64 v4.N.Q.Sign, .slice H I J, .bool v4.Is]) (u := .agg #[.int .i64 v4.N.P.Sign, .slice y z G, .int .i64 v4.N.Q.Sign, .slice H I J]) (fun _ => by kernel_rfl) Y Y Y (a0s sz37 Y gl Y Y Y Y (i := 0) Y Y Y Y ?_)
 intro gq g6
 refine a0b Y Y Y (a0g (a0c (a1d (a1o (vl := [.agg #[.int .i64 v4.N.P.Sign, .slice y z G, .int .i64 v4.N.Q.Sign, .slice H I J], .int .i64 0]) Y ⟨a2d ag37 sz37 Y g6 Y (i := 0) Y, a1r Y, trivial⟩ (by simp) ?_))))
 obtain rfl := Yo hm
 exact ⟨_, _, _, Y, g6.Yp [] Y Y, y, z, G, H, I, J, Y, Y, gm, gn⟩
 clear hm
 rcases a0f g with ⟨g7, g⟩ | ⟨g7, g⟩
 refine a1g 23 Y g7 (a0t Y (by decide) Y (a0t Y (by decide) Y (a0t Y (by decide) Y (a0t Y (by decide) Y (a0t Y (by decide) Y (a0n Y Y Y Y (a0g (a0o (fun a ha => ?_)))))))))
 cases g
 exact ⟨_, Yf, g3.Yp [0, 1, 2] Y Y, ha.cut (l := [1, 3, 4, 6, 8, 29]) Y⟩
 refine a1g 23 Y g7 (a0d Y Y Y (a0d Y Y Y (a1x s.len u27 Y Y Y ?_)))
 obtain ⟨v5, go, g⟩ := Yb g
 refine a0i ent38 Y Y Y Y g3 (b8z _ _ _ _ go g3.sat ((ga.mono j).mono k)) ?_
 rintro _ h4 _ gr gp ge ⟨rfl, rfl⟩
 refine a3d Y Y Y (a0k Y Y Y Y (a0g (a0o (fun a ha => ?_))))
 cases g
 exact ⟨_, gp, ge.Yp [0, 1, 2] Y Y, ha.cut (l := [1, 3, 4, 6, 8, 29]) Y⟩
theorem ent9 : Ent Tryz.prog 9 := fun _ _ => by kernel_rfl
def a7x (n : Nat) (t1 : Tariff) (names1 : (List Bs)) (f1 : Facts) (weights1 : (List Frac)) : Option (Frac × Int) :=
 (a6e n t1 names1 f1 weights1).bind fun v1 =>
 bif v1.2 != 0 then
  some ((⟨(⟨0, []⟩ : Big), (⟨0, []⟩ : Big)⟩ : Frac), v1.2)
 else
  (bif t1.Cap != (-1) then
   (a6t n t1.Cap).bind fun v6 =>
   (a5t n v1.1 v6).bind fun v7 =>
   some (decide (0 < v7))
  else
   some false).bind fun v2 =>
  bif v2 then
   (a6t n t1.Cap).bind fun v3 =>
   some (v3, 0)
  else
   (a8j n v1.1).bind fun v4 =>
   bif decide (v4 < 0) then
    (a6t n 0).bind fun v5 =>
    some (v5, 0)
   else
    some (v1.1, 0)
theorem c0x (n : Nat) (t1 : Tariff) (names1 : (List Bs)) (f1 : Facts) (weights1 : (List Frac)) (r : (Frac × Int)) (hm : a7x n t1 names1 f1 weights1 = some r) {w : World} {F : Frz} (hs : Sat F w) {p g9 q ga : Option Addr} {s t gb gc u x gd ge : Nat} (h0 : SlR rp_Expr F p s t t1.Fee.Args) (h1 : SlR Rp.str F g9 gb gc names1) (h2 : SlR (Rp.int .i64) F q u x f1.Lifts) (h3 : SlR rp_Frac F ga gd ge weights1) :
  Calls Tryz.prog 11 #[.agg #[vs t1.Name, .int .i64 t1.Fee.Op, .int .i64 t1.Fee.N, vs t1.Fee.Name, .slice p s t, .int .i64 t1.Cap], .slice g9 gb gc, .agg #[.slice q u x, .int .i64 f1.Persons, .int .i64 f1.Flats], .slice ga gd ge] w fun e w' => ∃ v F' O', e = .returned v ∧ HS F w [] F' O' w' ∧ (∃ (a0_1 : Option Addr) (n0_1 : Nat) (c0_1 : Nat) (a0_3 : Option Addr) (n0_3 : Nat) (c0_3 : Nat), v = .tuple #[.agg #[.int .i64 r.1.P.Sign, .slice a0_1 n0_1 c0_1, .int .i64 r.1.Q.Sign, .slice a0_3 n0_3 c0_3], .int .i64 r.2] ∧ O' = [] ∧ SlR (Rp.int .i64) F' a0_1 n0_1 c0_1 r.1.P.Digits ∧ SlR (Rp.int .i64) F' a0_3 n0_3 c0_3 r.1.Q.Digits) := by
 unfold a7x at hm
 have h := HS.init hs
 refine a1a 43 Tryz.func11 Y Y Y (a0h (a0a (a2i Y Y Y Y h ?_)))
 intro b1 hz h4
 refine a2i Y Y Y Y h4 ?_
 intro b2 i0 h5
 refine a1f ze37 Y Y Y h5 ?_
 intro b3 i1 y
 refine a0b Y Y Y (a0g (a0c (a0h (a0a (a0m ag26 sz26 Y Y y Y (i := 2) Y Y (a0d Y Y Y (a0m ag30 sz30 Y Y y Y (i := 1) Y Y (a0d Y Y Y ?_))))))))
 obtain ⟨v1, h6, hm⟩ := Yb hm
 refine a0i ent9 Y Y Y Y y (b6f _ _ _ _ _ _ h6 y.sat h0 h1 h2 h3) ?_
 rintro _ gf _ i2 i3 h7 ⟨z, G, H, I, J, K, rfl, rfl, R, T⟩
 refine a0d Y Y Y (a0l Y Y Y Y (a0l Y Y Y Y (a1f ze37 Y Y Y h7 ?_)))
 intro b4 i4 h8
 refine a0s sz37 Y h8 Y Y Y Y (i := 0) Y Y Y Y ?_
 intro i5 gg
 refine a0b Y Y Y (a0g (a0c (a0h (a0h (a0a (a0d Y Y Y (a0u Y Y Y Y Y (a0g (a0c ?_)))))))))
 rcases a0f hm with ⟨U, hm⟩ | ⟨U, hm⟩
 refine a0r 21 Y U (a0y Y (a0h (a0a (a1y (v := .agg #[.int .i64 0, .slice none 0 0, .int .i64 0, .slice none 0 0]) Y Y Y (fun _ => by kernel_rfl) (a0d Y Y Y (a0s sz37 Y gg Y Y Y Y (i := 1) Y Y Y Y ?_))))))
 intro i6 gh
 refine a0b Y Y Y (a0g (a0c (a1d (a0j (a1o (vl := [.agg #[.int .i64 0, .slice none 0 0, .int .i64 0, .slice none 0 0], .int .i64 v1.2]) Y ⟨a2d ag37 sz37 Y gh Y (i := 1) Y, a1r Y, trivial⟩ (by simp) ?_)))))
 obtain rfl := Yo hm
 exact ⟨_, _, _, Y, gh.Yp [] Y Y, none, 0, 0, none, 0, 0, Y, Y, SlR.nil _ _, SlR.nil _ _⟩
 refine a0r 21 Y U (a0q Y (a1c (a0c (a0h (a0h (a2l (SH gf [.box b4 37 [.int .i64 v1.1.P.Sign, .slice z G H, .int .i64 v1.1.Q.Sign, .slice I J K], .box b3 37 [.int .i64 0, .slice none 0 0, .int .i64 0, .slice none 0 0], .box b2 30 [.slice q u x, .int .i64 f1.Persons, .int .i64 f1.Flats], .box b1 26 [vs t1.Name, .int .i64 t1.Fee.Op, .int .i64 t1.Fee.N, vs t1.Fee.Name, .slice p s t, .int .i64 t1.Cap]]) 11 Y (by kernel_rfl) gg ?_))))))
 intro i7 L
 have S0 := L.Ys Yf [0, 1, 2, 3] Y Y
 refine d_tk 0 Y (by kernel_rfl) Y Y Y Y S0 (fun _ _ _ _ _ => a0e fa26_2 Y Y Y Yn) (d_tk 1 Y (by kernel_rfl) Y Y Y Y S0 (fun _ _ _ _ hq => a0p ag3 Y Y hq Y (i := 3) Y Y Yn) (d_tk 2 Y (by kernel_rfl) Y Y Y Y S0 (fun _ _ _ _ _ => a0u Y Y Y Y Y Yn) (d_tk 3 Y (by kernel_rfl) Y Y Y Y S0 (fun _ _ _ _ _ => a0d Y Y Y Yn) ?_)))
 obtain ⟨v2, g, hm⟩ := Yb hm
 refine c5c (fuel' := 0) (listed' := #[true, true, true, true, true, true, true, true, true, true, true]) (fun a w' => ∃ (V : Frz), Frz.le gf V ∧ HS F w [] V [.box b4 37 [.int .i64 v1.1.P.Sign, .slice z G H, .int .i64 v1.1.Q.Sign, .slice I J K], .box b3 37 [.int .i64 0, .slice none 0 0, .int .i64 0, .slice none 0 0], .box b2 30 [.slice q u x, .int .i64 f1.Persons, .int .i64 f1.Flats], .box b1 26 [vs t1.Name, .int .i64 t1.Fee.Op, .int .i64 t1.Fee.N, vs t1.Fee.Name, .slice p s t, .int .i64 t1.Cap]] w' ∧ Has 43 a [(4, .pointer (some ⟨b1, 0, none⟩)), (8, .pointer (some ⟨b3, 0, none⟩)), (10, .pointer (some ⟨b4, 0, none⟩)), (34, .bool v2)]) ?_ (fun gi => ?_)
 rintro a i8 ⟨V, M, j, gu⟩
 refine b2p gu (a2x (by kernel_rfl) (a0c ?_))
 rcases a0f hm with ⟨Z, hm⟩ | ⟨Z, hm⟩
 refine a0r 34 Y Z (a0y Y (a0h (a0a (a0e fa26_2 Y Y Y (a0p ag3 Y Y j Y (i := 3) Y Y ?_)))))
 obtain ⟨v3, h9, hm⟩ := Yb hm
 refine a0i ent17 Y Y Y Y j (a6y _ _ _ h9 j.sat) ?_
 rintro _ i9 _ hi ia gv ⟨gj, gk, gl, gm, gn, go, rfl, rfl, hb, hc⟩
 refine a0s sz37 Y gv Y Y Y Y (i := 1) Y Y Y Y ?_
 intro hj g0
 refine a0b Y Y Y (a0g (a0c (a1d (a0j (a1o (vl := [.agg #[.int .i64 v3.P.Sign, .slice gj gk gl, .int .i64 v3.Q.Sign, .slice gm gn go], .int .i64 0]) Y ⟨a2d ag37 sz37 Y g0 Y (i := 1) Y, a1r Y, trivial⟩ (by simp) ?_)))))
 obtain rfl := Yo hm
 exact ⟨_, _, _, Y, g0.Yp [] Y Y, gj, gk, gl, gm, gn, go, Y, Y, hb, hc⟩
 refine a0r 34 Y Z (a0q Y (a1c (a0c (a0h (a0h (a0a (a0m ag37 sz37 Y Y j Y (i := 0) Y Y ?_)))))))
 obtain ⟨v4, hd, hm⟩ := Yb hm
 refine a0i ent42 Y Y Y Y j (b7k _ _ _ hd j.sat (R.mono M) (T.mono M)) ?_
 rintro _ ib _ hk gp k ⟨rfl, rfl⟩
 refine a0u Y Y Y Y Y (a0g (a0c ?_))
 rcases a0f hm with ⟨g1, hm⟩ | ⟨g1, hm⟩
 refine a0r 40 Y g1 (a0y Y (a0h (a0a ?_)))
 obtain ⟨v5, he, hm⟩ := Yb hm
 refine a0i ent17 Y Y Y Y k (a6y _ _ _ he k.sat) ?_
 rintro _ ic _ hl id gw ⟨gq, gr, gs, g2, g3, g4, rfl, rfl, hf, gx⟩
 refine a0s sz37 Y gw Y Y Y Y (i := 1) Y Y Y Y ?_
 intro hn g5
 refine a0b Y Y Y (a0g (a0c (a1d (a0j (a1o (vl := [.agg #[.int .i64 v5.P.Sign, .slice gq gr gs, .int .i64 v5.Q.Sign, .slice g2 g3 g4], .int .i64 0]) Y ⟨a2d ag37 sz37 Y g5 Y (i := 1) Y, a1r Y, trivial⟩ (by simp) ?_)))))
 obtain rfl := Yo hm
 exact ⟨_, _, _, Y, g5.Yp [] Y Y, gq, gr, gs, g2, g3, g4, Y, Y, hf, gx⟩
 refine a0r 40 Y g1 (a0q Y (a1c (a0c (a0h (a0a (a0m ag37 sz37 Y Y k Y (i := 0) Y Y (a0s sz37 Y k Y Y Y Y (i := 1) Y Y Y Y ?_)))))))
 intro ho g6
 refine a0b Y Y Y (a0g (a0c (a1d (a1o (vl := [.agg #[.int .i64 v1.1.P.Sign, .slice z G H, .int .i64 v1.1.Q.Sign, .slice I J K], .int .i64 0]) Y ⟨a2d ag37 sz37 Y g6 Y (i := 1) Y, a1r Y, trivial⟩ (by simp) ?_))))
 obtain rfl := Yo hm
 exact ⟨_, _, _, Y, g6.Yp [] Y Y, z, G, H, I, J, K, Y, Y, ((R.mono M).mono gp), ((T.mono M).mono gp)⟩
 clear hm
 rcases a0f g with ⟨g7, g⟩ | ⟨g7, g⟩
 refine b5z 27 Y g7 (d_tk 4 Y (by kernel_rfl) Y Y Y Y S0 (fun _ _ _ _ hq => a0m ag37 sz37 Y Y hq Y (i := 0) Y Y Yn) (d_tk 5 Y (by kernel_rfl) Y Y Y Y S0 (fun _ _ _ _ _ => a0e fa26_2 Y Y Y Yn) (d_tk 6 Y (by kernel_rfl) Y Y Y Y S0 (fun _ _ _ _ hq => a0p ag3 Y Y hq Y (i := 3) Y Y Yn) (a1b 7 Y (by kernel_rfl) ?_))))
 obtain ⟨v6, hg, g⟩ := Yb g
 refine a0i ent17 Y Y Y Y L (a6y _ _ _ hg L.sat) ?_
 rintro _ ie _ hp m o ⟨hr, ht, hu, hv, hw, hx, rfl, rfl, gy, gz⟩
 refine a0w (o.Ys m [0, 1, 2, 3] Y Y) (a1b 8 Y (by kernel_rfl) ?_)
 obtain ⟨v7, hh, g⟩ := Yb g
 refine a0i ent41 Y Y Y Y o (a7k _ _ _ _ hh o.sat (R.mono m) (T.mono m) gy gz) ?_
 rintro _ ig _ hy gt g8 ⟨rfl, rfl⟩
 have S1 := g8.Ys (m.trans gt) [0, 1, 2, 3] Y Y
 refine a0w S1 (d_tk 9 Y (by kernel_rfl) Y Y Y Y S1 (fun _ _ _ _ _ => a0u Y Y Y Y Y Yn) (d_tk 10 Y (by kernel_rfl) Y Y Y Y S1 (fun _ _ _ _ _ => a0n Y Y Y Y Yn) (b6a gi (by kernel_rfl) (fun a ha => ?_))))
 cases g
 exact ⟨_, (m.trans gt), g8.Yp [0, 1, 2, 3] Y Y, ha.cut (l := [4, 8, 10, 34]) Y⟩
 refine b5z 27 Y g7 (d_of 4 Y (by kernel_rfl) Y Y Y S0 (d_of 5 Y (by kernel_rfl) Y Y Y S0 (d_of 6 Y (by kernel_rfl) Y Y Y S0 (d_of 7 Y (by kernel_rfl) Y Y Y S0 (d_of 8 Y (by kernel_rfl) Y Y Y S0 (d_of 9 Y (by kernel_rfl) Y Y Y S0 ?_))))))
 refine d_tk 10 Y (by kernel_rfl) Y Y Y Y S0 (fun _ _ _ _ _ => a0k Y Y Y Y Yn) (b6a gi (by kernel_rfl) (fun a ha => ?_))
 cases g
 exact ⟨_, Yf, L.Yp [0, 1, 2, 3] Y Y, ha.cut (l := [4, 8, 10, 34]) Y⟩
end Go.Proofs.YtknpjecpcmajiaaGreat.M

namespace Go.Proofs.YtknpjecpcmajiaaGreat.M
open Go Go.RowKit Rt
theorem ent6 : Ent Tryz.prog 6 := fun _ _ => by kernel_rfl
theorem ent7 : Ent Tryz.prog 7 := fun _ _ => by kernel_rfl
theorem ent11 : Ent Tryz.prog 11 := fun _ _ => by kernel_rfl
def b0w (n : Nat) (t1 : Tariff) (names1 : (List Bs)) (f1 : Facts) (weights1 : (List Frac)) : Option Bool :=
 (b2k n).bind fun v1 =>
 (b5q n t1 names1 f1 weights1).bind fun v2 =>
 bif !v2 then
  some v1
 else
  (a7h n t1 names1 f1 weights1).bind fun v3 =>
  (a6e n t1 names1 f1 weights1).bind fun v4 =>
  (a9r n t1 names1 f1 weights1).bind fun v5 =>
  (a7x n t1 names1 f1 weights1).bind fun v6 =>
  (bif v1 then
   some (v3.2 == v4.2)
  else
   some false).bind fun v7 =>
  (bif v7 then
   some (v5.2 == v6.2)
  else
   some false).bind fun v8 =>
  (bif v8 then
   (a6a n v3.1 v4.1).bind fun v12 =>
   some v12
  else
   some false).bind fun v9 =>
  (bif v9 then
   (a6a n v5.1 v6.1).bind fun v11 =>
   some v11
  else
   some false).bind fun v10 =>
  some v10
theorem law36_FeeTells_ok (n : Nat) (t1 : Tariff) (names1 : (List Bs)) (f1 : Facts) (weights1 : (List Frac)) (r : Bool) (hm : b0w n t1 names1 f1 weights1 = some r) {w : World} {F : Frz} (hs : Sat F w) {M gl R gm : Option Addr} {T U gn go V Z gp gq : Nat} (y : SlR rp_Expr F M T U t1.Fee.Args) (z : SlR Rp.str F gl gn go names1) (G : SlR (Rp.int .i64) F R V Z f1.Lifts) (H : SlR rp_Frac F gm gp gq weights1) :
  Calls Tryz.prog 3 #[.agg #[vs t1.Name, .int .i64 t1.Fee.Op, .int .i64 t1.Fee.N, vs t1.Fee.Name, .slice M T U, .int .i64 t1.Cap], .slice gl gn go, .agg #[.slice R V Z, .int .i64 f1.Persons, .int .i64 f1.Flats], .slice gm gp gq] w fun e w' => ∃ v F' O', e = .returned v ∧ HS F w [] F' O' w' ∧ (v = .bool r ∧ O' = []) := by
 unfold b0w at hm
 have h := HS.init hs
 refine a1a 79 Tryz.func3 Y Y Y (a0h (a0a (a2i Y Y Y Y h ?_)))
 intro b1 io ho
 refine a2i Y Y Y Y ho ?_
 intro b2 ip gr
 refine a0b Y Y Y (a0g (a0c (a0h (a0a ?_))))
 obtain ⟨v1, hp, hm⟩ := Yb hm
 refine a0i ent6 Y Y Y Y gr (c2b _ _ hp gr.sat) ?_
 rintro _ iq _ ir g g0 ⟨rfl, rfl⟩
 refine a0b Y Y Y (a0g (a0c (a0h (a0h (a0a (a0m ag26 sz26 Y Y g0 Y (i := 1) Y Y (a0d Y Y Y (a0m ag30 sz30 Y Y g0 Y (i := 0) Y Y (a0d Y Y Y ?_)))))))))
 obtain ⟨v2, hq, hm⟩ := Yb hm
 refine a0i ent7 Y Y Y Y g0 (c5d _ _ _ _ _ _ hq g0.sat (y.mono g) (z.mono g) (G.mono g) (H.mono g)) ?_
 rintro _ it _ iu j I ⟨rfl, rfl⟩
 refine a3d Y Y Y (a0g (a0c ?_))
 rcases a0f hm with ⟨g4, hm⟩ | ⟨g4, hm⟩
 refine a0r 24 Y g4 (a0y Y (a0h (a0a (a0d Y Y Y (a0b Y Y Y (a0g (a0c (a1d (a0j (a1j Y Y ?_))))))))))
 obtain rfl := Yo hm
 exact ⟨_, _, _, Y, I.Yp [] Y Y, Y, Y⟩
 refine a0r 24 Y g4 (a0q Y (a1c (a0c (a0h (a0a (a0m ag26 sz26 Y Y I Y (i := 1) Y Y (a0d Y Y Y (a0m ag30 sz30 Y Y I Y (i := 0) Y Y (a0d Y Y Y ?_)))))))))
 obtain ⟨v3, hr, hm⟩ := Yb hm
 refine a0i ent8 Y Y Y Y I (b4y _ _ _ _ _ _ hr I.sat ((y.mono g).mono j) ((z.mono g).mono j) ((G.mono g).mono j) ((H.mono g).mono j)) ?_
 rintro _ iv _ iw J ht ⟨gs, gt, gu, gv, gw, gx, rfl, rfl, hu, hv⟩
 refine a0d Y Y Y (a0l Y Y Y Y (a0l Y Y Y Y (a1f ze37 Y Y Y ht ?_)))
 intro b3 ix hw
 refine a0s sz37 Y hw Y Y Y Y (i := 0) Y Y Y Y ?_
 intro iy g1
 refine a0b Y Y Y (a0g (a0c (a0h (a0a (a0m ag26 sz26 Y Y g1 Y (i := 2) Y Y (a0d Y Y Y (a0m ag30 sz30 Y Y g1 Y (i := 1) Y Y (a0d Y Y Y ?_))))))))
 obtain ⟨v4, hx, hm⟩ := Yb hm
 refine a0i ent9 Y Y Y Y g1 (b6f _ _ _ _ _ _ hx g1.sat (((y.mono g).mono j).mono J) (((z.mono g).mono j).mono J) (((G.mono g).mono j).mono J) (((H.mono g).mono j).mono J)) ?_
 rintro _ iz _ j0 g5 hy ⟨gy, gz, h0, h1, h2, h3, rfl, rfl, hz, i0⟩
 refine a0d Y Y Y (a0l Y Y Y Y (a0l Y Y Y Y (a1f ze37 Y Y Y hy ?_)))
 intro b4 j1 i1
 refine a0s sz37 Y i1 Y Y Y Y (i := 0) Y Y Y Y ?_
 intro i9 u
 refine a0b Y Y Y (a0g (a0c (a0h (a0a (a0m ag26 sz26 Y Y u Y (i := 3) Y Y (a0d Y Y Y (a0m ag30 sz30 Y Y u Y (i := 2) Y Y (a0d Y Y Y ?_))))))))
 have k := ((g.trans j).trans J).trans g5
 obtain ⟨v5, i2, hm⟩ := Yb hm
 refine a0i ent10 Y Y Y Y u (b7h _ _ _ _ _ _ i2 u.sat (y.mono k) (z.mono k) (G.mono k) (H.mono k)) ?_
 rintro _ j2 _ ia m h7 ⟨h4, h5, h6, g6, g7, g8, rfl, rfl, i3, h8⟩
 refine a0d Y Y Y (a0l Y Y Y Y (a0l Y Y Y Y (a1f ze37 Y Y Y h7 ?_)))
 intro b5 ib h9
 refine a0s sz37 Y h9 Y Y Y Y (i := 0) Y Y Y Y ?_
 intro ic x
 refine a0b Y Y Y (a0g (a0c (a0h (a0a (a0m ag26 sz26 Y Y x Y (i := 4) Y Y (a0d Y Y Y (a0m ag30 sz30 Y Y x Y (i := 3) Y Y (a0d Y Y Y ?_))))))))
 obtain ⟨v6, i4, hm⟩ := Yb hm
 refine a0i ent11 Y Y Y Y x (c0x _ _ _ _ _ _ i4 x.sat ((y.mono k).mono m) ((z.mono k).mono m) ((G.mono k).mono m) ((H.mono k).mono m)) ?_
 rintro _ i5 _ id t hb ⟨g9, ga, gb, gc, gd, ge, rfl, rfl, hc, hd⟩
 refine a0d Y Y Y (a0l Y Y Y Y (a0l Y Y Y Y (a1f ze37 Y Y Y hb ?_)))
 intro b6 ie he
 refine a0s sz37 Y he Y Y Y Y (i := 0) Y Y Y Y ?_
 intro gf o
 refine a0b Y Y Y (a0g (a0c (a0h (a0a (a0d Y Y Y (a0d Y Y Y ?_))))))
 obtain ⟨v7, K, hm⟩ := Yb hm
 refine a1z 4 (fun a w' => gf = w' ∧ Has 79 a [(10, .pointer (some ⟨b3, 0, none⟩)), (12, .pointer (some ⟨b4, 0, none⟩)), (14, .pointer (some ⟨b5, 0, none⟩)), (15, .int .i64 v5.2), (16, .pointer (some ⟨b6, 0, none⟩)), (17, .int .i64 v6.2), (63, .bool v7)]) ?_ ?_
 rintro a ig ⟨rfl, hf⟩
 refine a0z hf (a0d Y Y Y ?_)
 obtain ⟨v8, L, hm⟩ := Yb hm
 refine a1z 4 (fun a w' => gf = w' ∧ Has 79 a [(10, .pointer (some ⟨b3, 0, none⟩)), (12, .pointer (some ⟨b4, 0, none⟩)), (14, .pointer (some ⟨b5, 0, none⟩)), (16, .pointer (some ⟨b6, 0, none⟩)), (68, .bool v8)]) ?_ ?_
 rintro a ih ⟨rfl, hg⟩
 refine a0z hg (a0d Y Y Y ?_)
 obtain ⟨v9, p, hm⟩ := Yb hm
 refine a1z 4 (fun a w' => ∃ (g2 : Frz), Frz.le i5 g2 ∧ HS F w [] g2 [.box b6 37 [.int .i64 v6.1.P.Sign, .slice g9 ga gb, .int .i64 v6.1.Q.Sign, .slice gc gd ge], .box b5 37 [.int .i64 v5.1.P.Sign, .slice h4 h5 h6, .int .i64 v5.1.Q.Sign, .slice g6 g7 g8], .box b4 37 [.int .i64 v4.1.P.Sign, .slice gy gz h0, .int .i64 v4.1.Q.Sign, .slice h1 h2 h3], .box b3 37 [.int .i64 v3.1.P.Sign, .slice gs gt gu, .int .i64 v3.1.Q.Sign, .slice gv gw gx], .box b2 30 [.slice R V Z, .int .i64 f1.Persons, .int .i64 f1.Flats], .box b1 26 [vs t1.Name, .int .i64 t1.Fee.Op, .int .i64 t1.Fee.N, vs t1.Fee.Name, .slice M T U, .int .i64 t1.Cap]] w' ∧ Has 79 a [(14, .pointer (some ⟨b5, 0, none⟩)), (16, .pointer (some ⟨b6, 0, none⟩)), (73, .bool v9)]) ?_ ?_
 rintro a ii ⟨g2, g3, q, hh⟩
 refine a0z hh (a0d Y Y Y ?_)
 obtain ⟨v10, s, hm⟩ := Yb hm
 refine a1z 4 (fun a w' => ∃ (gg : Frz), Frz.le g2 gg ∧ HS F w [] gg [.box b6 37 [.int .i64 v6.1.P.Sign, .slice g9 ga gb, .int .i64 v6.1.Q.Sign, .slice gc gd ge], .box b5 37 [.int .i64 v5.1.P.Sign, .slice h4 h5 h6, .int .i64 v5.1.Q.Sign, .slice g6 g7 g8], .box b4 37 [.int .i64 v4.1.P.Sign, .slice gy gz h0, .int .i64 v4.1.Q.Sign, .slice h1 h2 h3], .box b3 37 [.int .i64 v3.1.P.Sign, .slice gs gt gu, .int .i64 v3.1.Q.Sign, .slice gv gw gx], .box b2 30 [.slice R V Z, .int .i64 f1.Persons, .int .i64 f1.Flats], .box b1 26 [vs t1.Name, .int .i64 t1.Fee.Op, .int .i64 t1.Fee.N, vs t1.Fee.Name, .slice M T U, .int .i64 t1.Cap]] w' ∧ Has 79 a [(78, .bool v10)]) ?_ ?_
 rintro a ij ⟨gg, j3, hi, hj⟩
 refine a0z hj (a0b Y Y Y (a0g (a0c (a1d (a1j Y Y ?_)))))
 obtain rfl := Yo hm
 exact ⟨_, _, _, Y, hi.Yp [] Y Y, Y, Y⟩
 clear hm
 rcases a0f s with ⟨gh, s⟩ | ⟨gh, s⟩
 refine a1g 74 Y gh (a0m ag37 sz37 Y Y q Y (i := 1) Y Y (a0m ag37 sz37 Y Y q Y (i := 0) Y Y ?_))
 obtain ⟨v11, i6, s⟩ := Yb s
 refine a0i ent12 Y Y Y Y q (a8s _ _ _ _ i6 q.sat ((i3.mono t).mono g3) ((h8.mono t).mono g3) (hc.mono g3) (hd.mono g3)) ?_
 rintro _ j4 _ ik i7 hk ⟨rfl, rfl⟩
 refine a0n Y Y Y Y (a0g (a0o (fun a ha => ?_)))
 cases s
 exact ⟨_, i7, hk.Yp [0, 1, 2, 3, 4, 5] Y Y, ha.cut (l := [78]) Y⟩
 refine a1g 74 Y gh (a0t Y (by decide) Y (a0t Y (by decide) Y (a0t Y (by decide) Y (a0k Y Y Y Y (a0g (a0o (fun a ha => ?_)))))))
 cases s
 exact ⟨_, Yf, q.Yp [0, 1, 2, 3, 4, 5] Y Y, ha.cut (l := [78]) Y⟩
 clear hm
 rcases a0f p with ⟨gi, p⟩ | ⟨gi, p⟩
 refine a1g 69 Y gi (a0m ag37 sz37 Y Y o Y (i := 3) Y Y (a0m ag37 sz37 Y Y o Y (i := 2) Y Y ?_))
 obtain ⟨v12, i8, p⟩ := Yb p
 refine a0i ent12 Y Y Y Y o (a8s _ _ _ _ i8 o.sat (((hu.mono g5).mono m).mono t) (((hv.mono g5).mono m).mono t) ((hz.mono m).mono t) ((i0.mono m).mono t)) ?_
 rintro _ il _ im hl hn ⟨rfl, rfl⟩
 refine a0n Y Y Y Y (a0g (a0o (fun a ha => ?_)))
 cases p
 exact ⟨_, hl, hn.Yp [0, 1, 2, 3, 4, 5] Y Y, ha.cut (l := [14, 16, 73]) Y⟩
 refine a1g 69 Y gi (a0t Y (by decide) Y (a0t Y (by decide) Y (a0t Y (by decide) Y (a0k Y Y Y Y (a0g (a0o (fun a ha => ?_)))))))
 cases p
 exact ⟨_, Yf, o.Yp [0, 1, 2, 3, 4, 5] Y Y, ha.cut (l := [14, 16, 73]) Y⟩
 clear hm
 rcases a0f L with ⟨gj, L⟩ | ⟨gj, L⟩
 refine a1g 64 Y gj (a0d Y Y Y (a0d Y Y Y (a0u Y Y Y Y Y (a0n Y Y Y Y (a0g (a0o (fun a ha => ?_)))))))
 cases L
 exact ⟨Y, ha.cut (l := [10, 12, 14, 16, 68]) Y⟩
 refine a1g 64 Y gj (a0t Y (by decide) Y (a0t Y (by decide) Y (a0t Y (by decide) Y (a0k Y Y Y Y (a0g (a0o (fun a ha => ?_)))))))
 cases L
 exact ⟨Y, ha.cut (l := [10, 12, 14, 16, 68]) Y⟩
 clear hm
 rcases a0f K with ⟨gk, K⟩ | ⟨gk, K⟩
 refine a1g 59 Y gk (a0d Y Y Y (a0d Y Y Y (a0u Y Y Y Y Y (a0n Y Y Y Y (a0g (a0o (fun a ha => ?_)))))))
 cases K
 exact ⟨Y, ha.cut (l := [10, 12, 14, 15, 16, 17, 63]) Y⟩
 refine a1g 59 Y gk (a0t Y (by decide) Y (a0t Y (by decide) Y (a0t Y (by decide) Y (a0k Y Y Y Y (a0g (a0o (fun a ha => ?_)))))))
 cases K
 exact ⟨Y, ha.cut (l := [10, 12, 14, 15, 16, 17, 63]) Y⟩
end Go.Proofs.YtknpjecpcmajiaaGreat.M

namespace Go.Proofs.YtknpjecpcmajiaaGreat.Rt
open Go
def Ev {α : Type} (f : Nat → Option α) (r : α) : Prop := ∃ N, ∀ n, N ≤ n → f n = some r
section
variable {α β : Type}
theorem Ev.pure (a : α) : Ev (fun _ => some a) a := ⟨0, fun _ _ => rfl⟩
theorem Ev.all {f : Nat → Option α} {r : α} (h : ∀ n, f n = some r) : Ev f r := ⟨0, fun n _ => h n⟩
theorem Ev.bind {x : Nat → Option α} {f : Nat → α → Option β} {a : α} {b : β} (hx : Ev x a) (hf : Ev (fun n => f n a) b) : Ev (fun n => (x n).bind (f n)) b := by
 obtain ⟨N, hN⟩ := hx
 obtain ⟨M, hM⟩ := hf
 refine ⟨max N M, fun n hn => ?_⟩
 show (x n).bind (f n) = some b
 rw [hN n (by omega)]
 exact hM n (by omega)
theorem Ev.step {x : Option α} {f : Nat → α → Option β} {a : α} {b : β} (hx : x = some a) (hf : Ev (fun n => f n a) b) : Ev (fun n => x.bind (f n)) b := by
 subst hx; exact hf
theorem Ev.then {x : Nat → Option α} {b : α} {c : Bool} {y : Nat → Option α} (hc : c = true) (h : Ev x b) : Ev (fun n => bif c then x n else y n) b := by subst hc; exact h
theorem Ev.else {x : Nat → Option α} {b : α} {c : Bool} {y : Nat → Option α} (hc : c = false) (h : Ev y b) : Ev (fun n => bif c then x n else y n) b := by subst hc; exact h
theorem Ev.from {f g : Nat → Option α} {r : α} (N : Nat) (h : ∀ n, N ≤ n → f n = g n) (hg : Ev g r) : Ev f r := by
 obtain ⟨M, hM⟩ := hg
 exact ⟨max N M, fun n hn => by rw [h n (by omega)]; exact hM n (by omega)⟩
theorem Ev.eq {f : Nat → Option α} {r s : α} (h : Ev f r) (e : r = s) : Ev f s := e ▸ h
theorem Ev.uniq {f : Nat → Option α} {r s : α} (h : Ev f r) (k : Ev f s) : r = s := by
 obtain ⟨N, hN⟩ := h
 obtain ⟨M, hM⟩ := k
 have h1 := hN (max N M) (by omega)
 rw [hM (max N M) (by omega)] at h1
 exact (Option.some.inj h1).symm
end
theorem d3d (x : Int) : IntKind.i64.wrap x = if x % 18446744073709551616 ≥ 9223372036854775808 then x % 18446744073709551616 - 18446744073709551616 else x % 18446744073709551616 := by
 simp [IntKind.wrap, IntKind.bits, IntKind.signed]
theorem a6n {x : Int} (h1 : -9223372036854775808 ≤ x) (h2 : x ≤ 9223372036854775807) : IntKind.i64.wrap x = x := by
 rw [d3d]; split <;> omega
theorem b5h (x : Int) : IntKind.u64.wrap x = x % 18446744073709551616 := by
 simp [IntKind.wrap, IntKind.bits, IntKind.signed]
theorem a4e {x y : Int} (h1 : -9223372036854775808 ≤ x + y) (h2 : x + y ≤ 9223372036854775807) : iadd .i64 x y = x + y := a6n h1 h2
theorem a2k {x y : Int} (h1 : -9223372036854775808 ≤ x - y) (h2 : x - y ≤ 9223372036854775807) : isub .i64 x y = x - y := a6n h1 h2
theorem a8t {x y : Int} (h1 : -9223372036854775808 ≤ x * y) (h2 : x * y ≤ 9223372036854775807) : imul .i64 x y = x * y := a6n h1 h2
theorem c3w (k : IntKind) (x : Int) (m : Nat) (hk : k.bits = 64) (hm : m < 64) : (BitVec.ofInt k.bits x &&& BitVec.ofInt k.bits ((2 ^ m - 1 : Nat) : Int)).toNat = (x % 18446744073709551616).toNat % 2 ^ m := by
 rw [BitVec.toNat_and, BitVec.toNat_ofInt, BitVec.toNat_ofInt, hk]
 have h2 : (((2 ^ m - 1 : Nat) : Int) % ((2 ^ 64 : Nat) : Int)).toNat = 2 ^ m - 1 := by
  have : 2 ^ m < 2 ^ 64 := Nat.pow_lt_pow_right (by omega) hm
  rw [← Int.natCast_emod, Int.toNat_natCast, Nat.mod_eq_of_lt (by omega)]
 rw [h2, Nat.and_two_pow_sub_one_eq_mod]
 rfl
theorem b5o (x : Int) : iand .i64 x 1048575 = x % 1048576 := by
 have h := c3w .i64 x 20 rfl (by omega)
 have e : ((2 ^ 20 - 1 : Nat) : Int) = 1048575 := by decide
 rw [e] at h
 unfold iand
 rw [h, a6n (by omega) (by omega)]
 omega
theorem c8c {x : Int} (h0 : 0 ≤ x) (h1 : x < 18446744073709551616) : iand .u64 x 1048575 = x % 1048576 := by
 have h := c3w .u64 x 20 rfl (by omega)
 have e : ((2 ^ 20 - 1 : Nat) : Int) = 1048575 := by decide
 rw [e] at h
 unfold iand
 rw [h, b5h]
 omega
theorem d2f (x : Int) : iand .i64 x 1 = x % 2 := by
 have h := c3w .i64 x 1 rfl (by omega)
 have e : ((2 ^ 1 - 1 : Nat) : Int) = 1 := by decide
 rw [e] at h
 unfold iand
 rw [h, a6n (by omega) (by omega)]
 omega
theorem c1e (x : Int) : shr .i64 x 20 = some (x / 1048576) := by
 unfold shr
 rw [if_neg (by omega), Int.fdiv_eq_ediv_of_nonneg _ (by decide)]
 rfl
theorem d4i (x : Int) : shr .u64 x 20 = some (x / 1048576) := by
 unfold shr
 rw [if_neg (by omega), Int.fdiv_eq_ediv_of_nonneg _ (by decide)]
 rfl
theorem c0p {x : Int} (h0 : -8796093022208 ≤ x) (h1 : x < 8796093022208) : shl .i64 x 20 = some (x * 1048576) := by
 unfold shl
 rw [if_neg (by omega), show (2 : Int) ^ (min (20 : Int).toNat IntKind.i64.bits) = 1048576 from by decide, a6n (by omega) (by omega)]
theorem c0h {x y : Int} (h0 : 0 ≤ x) (h1 : x < 8796093022208) (h2 : 0 ≤ y) (h3 : y < 1048576) : ior .i64 (x * 1048576) y = x * 1048576 + y := by
 obtain ⟨p, rfl⟩ := Int.eq_ofNat_of_zero_le h0
 obtain ⟨q, rfl⟩ := Int.eq_ofNat_of_zero_le h2
 unfold ior
 rw [BitVec.toNat_or, BitVec.toNat_ofInt, BitVec.toNat_ofInt, show IntKind.i64.bits = 64 from rfl]
 have e1 : (((p : Int) * 1048576) % ((2 ^ 64 : Nat) : Int)).toNat = 2 ^ 20 * p := by omega
 have e2 : ((q : Int) % ((2 ^ 64 : Nat) : Int)).toNat = q := by omega
 rw [e1, e2, ← Nat.two_pow_add_eq_or_of_lt (by omega), a6n (by omega) (by omega)]
 omega
theorem b9x {x y : Int} (h0 : 0 ≤ x) (h1 : x ≤ 9223372036854775807) (h2 : 0 < y) : quo .i64 x y = some (x / y) := by
 unfold quo
 have h3 := Int.ediv_nonneg h0 (Int.le_of_lt h2)
 have h4 := Int.ediv_le_self y h0
 rw [if_neg (by omega), Int.tdiv_eq_ediv_of_nonneg h0, a6n (by omega) (by omega)]
theorem b9t {x y : Int} (h0 : 0 ≤ x) (h2 : 0 < y) : rem x y = some (x % y) := by
 unfold rem
 rw [if_neg (by omega), Int.tmod_eq_emod_of_nonneg h0]
section
variable {α : Type}
theorem b4j (l : List α) (i : Nat) : ix l (i : Int) = l[i]? := by simp [ix]
theorem a8w (p : List α) (x : α) (s : List α) {i : Int} (hi : i = p.length) : ix (p ++ x :: s) i = some x := by
 subst hi; rw [b4j]; simp
theorem b0d (p : List α) (x y : α) (s : List α) {i : Int} (hi : i = p.length) : lset (p ++ x :: s) i y = some (p ++ y :: s) := by
 subst hi
 unfold lset
 rw [if_pos ⟨by omega, by simp; omega⟩]
 simp
theorem c2q {b : Nat} {z : α} {n : Nat} (h : n * b ≤ 140737488355328) : mks b z (n : Int) = some (List.replicate n z) := by
 unfold mks; rw [if_pos ⟨by omega, by simpa using h⟩]; simp
theorem b6z {b : Nat} {l m : List α} (h : (l.length + m.length) * b ≤ 140737488355328) : app b l m = some (l ++ m) := by unfold app; rw [if_pos h]
theorem c7h {l : List α} {p q : Nat} (h : p ≤ q) (h2 : q ≤ l.length) : lsl l (p : Int) (q : Int) = some ((l.take q).drop p) := by
 unfold lsl; rw [if_pos ⟨by omega, by omega, by omega⟩]; simp
end
end Go.Proofs.YtknpjecpcmajiaaGreat.Rt

namespace Go.Proofs.YtknpjecpcmajiaaGreat.Rt
open Go
theorem inc64 {i : Nat} (h : i < 4611686018427387904) : iadd .i64 (i : Int) 1 = ((i + 1 : Nat) : Int) := by rw [a4e (by omega) (by omega)]; omega
theorem d4r {i : Nat} (h : i < 4611686018427387904) : isub .i64 ((i + 1 : Nat) : Int) 1 = (i : Int) := by rw [a2k (by omega) (by omega)]; omega
theorem drop_cons {α : Type} {a : List α} {i : Nat} {x : α} {xs : List α} (h : a.drop i = x :: xs) : ix a (i : Int) = some x ∧ a.drop (i + 1) = xs ∧ i < a.length := by
 have h1 : i < a.length := by
  rcases Nat.lt_or_ge i a.length with h2 | h2
  ·exact h2
  ·rw [List.drop_eq_nil_of_le h2] at h; cases h
 rw [List.drop_eq_getElem_cons h1] at h
 injection h with h2 h3
 exact ⟨by rw [b4j, List.getElem?_eq_getElem h1, h2], h3, h1⟩
theorem drop_nil {α : Type} {a : List α} {i : Nat} (h : a.drop i = []) : a.length ≤ i := by simpa using h
theorem a3e {α : Type} {a : List α} {i : Nat} {x : α} {xs : List α} (h : a.drop i = x :: xs) : decide ((i : Int) < (a.length : Int)) = true := by
 have := (drop_cons h).2.2
 exact decide_eq_true (by omega)
theorem a6f {α : Type} {a : List α} {i : Nat} (h : a.drop i = []) : decide ((i : Int) < (a.length : Int)) = false := by
 have := drop_nil h
 exact decide_eq_false (by omega)
section
variable {β : Type} {r : β} {c d : Bool} {y : Nat → Option Bool} {f : Nat → Bool → Option β}
theorem guard {V : Bool} {rest : Nat → Option Bool} (h : V = false → Ev rest true) : Ev (fun n => bif V then some true else rest n) true := by
 cases V with
 | true => exact Ev.then rfl (Ev.pure _)
 | false => exact Ev.else rfl (h rfl)
theorem Ev.conv {α : Type} {x y : Nat → Option α} {s : α} (e : ∀ n, x n = y n) (h : Ev y s) : Ev x s := by
 obtain ⟨N, hN⟩ := h
 exact ⟨N, fun n hn => by rw [e n]; exact hN n hn⟩
end
theorem c7l {α : Type} {b : Nat} {l m : List α} (h : (l.length + m.length) * b ≤ 140737488355328) : app b l m = some (l ++ m) := b6z h
end Go.Proofs.YtknpjecpcmajiaaGreat.Rt

namespace Go.Proofs.YtknpjecpcmajiaaGreat.Rt
open Go
theorem Ev.suc {α : Type} {f g : Nat → Option α} {r : α} (e : ∀ n, f (n + 1) = g n) (h : Ev g r) : Ev f r := by
 obtain ⟨N, hN⟩ := h
 refine ⟨N + 1, fun n hn => ?_⟩
 obtain ⟨k, rfl⟩ : ∃ k, n = k + 1 := ⟨n - 1, by omega⟩
 rw [e]; exact hN k (by omega)
def Tt {α : Type} (Q : α → Prop) (f : Nat → Option α) : Prop := ∃ r, Ev f r ∧ Q r
section
variable {α β : Type} {P : α → Prop} {Q : β → Prop}
theorem Tt.pure {r : β} (h : Q r) : Tt Q (fun _ => some r) := ⟨r, Ev.pure r, h⟩
theorem Tt.of {f : Nat → Option β} {r : β} (h : Ev f r) (hq : Q r) : Tt Q f := ⟨r, h, hq⟩
theorem Tt.all {f : Nat → Option β} {r : β} (h : ∀ n, f n = some r) (hq : Q r) : Tt Q f := ⟨r, Ev.all h, hq⟩
theorem Tt.bind {x : Nat → Option α} {g : Nat → α → Option β} (hx : Tt P x) (h : ∀ r, P r → Tt Q (fun n => g n r)) : Tt Q (fun n => (x n).bind (g n)) := by
 obtain ⟨r, h1, h2⟩ := hx
 obtain ⟨s, h3, h4⟩ := h r h2
 exact ⟨s, Ev.bind h1 h3, h4⟩
theorem Tt.evb {x : Nat → Option α} {a : α} {g : Nat → α → Option β} (hx : Ev x a) (h : Tt Q (fun n => g n a)) : Tt Q (fun n => (x n).bind (g n)) := by
 obtain ⟨s, h3, h4⟩ := h
 exact ⟨s, Ev.bind hx h3, h4⟩
theorem Tt.step {x : Option α} {g : Nat → α → Option β} {a : α} (hx : x = some a) (h : Tt Q (fun n => g n a)) : Tt Q (fun n => x.bind (g n)) := by
 subst hx; exact h
theorem Tt.bif {c : Bool} {x y : Nat → Option β} (h1 : c = true → Tt Q x) (h2 : c = false → Tt Q y) : Tt Q (fun n => bif c then x n else y n) := by
 cases c
 ·exact h2 rfl
 ·exact h1 rfl
theorem Tt.suc {f g : Nat → Option β} (e : ∀ n, f (n + 1) = g n) (h : Tt Q g) : Tt Q f := by
 obtain ⟨r, h1, h2⟩ := h
 exact ⟨r, Ev.suc e h1, h2⟩
theorem Tt.cond {c d : Bool} {g : Nat → Bool → Option β} (h : ∀ b, Tt Q (fun n => g n b)) (k : Bool) : Tt Q (fun n => (bif c then some k else some d).bind (g n)) := by
 cases c <;> exact h _
end
end Go.Proofs.YtknpjecpcmajiaaGreat.Rt

namespace Go.Proofs.YtknpjecpcmajiaaGreat.Lx
abbrev Bs := List UInt8
def isLetter (c : UInt8) : Bool := decide ((97 ≤ c.toNat ∧ c.toNat ≤ 122) ∨ (65 ≤ c.toNat ∧ c.toNat ≤ 90))
def b6h (c : UInt8) : Bool := decide (48 ≤ c.toNat ∧ c.toNat ≤ 57)
def b2b (c : UInt8) : Bool := decide ((97 ≤ c.toNat ∧ c.toNat ≤ 122) ∨ (65 ≤ c.toNat ∧ c.toNat ≤ 90) ∨ (48 ≤ c.toNat ∧ c.toNat ≤ 57) ∨ c.toNat = 95)
def d5l (c : UInt8) : Bool := decide (32 ≤ c.toNat ∧ c.toNat ≤ 126)
def b7g (p : UInt8 → Bool) : Bs → Nat
  | [] => 0
  | c :: r => bif p c then b7g p r + 1 else 0
def name (l : Bs) : Bool := !l.isEmpty && isLetter (l.headD 0) && decide (l.length ≤ 20) && (b7g b2b l == l.length)
def dec (l : Bs) : Nat := l.foldl (fun n c => 10 * n + (c.toNat - 48)) 0
def maxNumber : Nat := 1099511627776
def d1q (l : Bs) : Bool := !l.isEmpty && (b7g b6h l == l.length) && !(l.headD 0 == 48 && !(l == [48])) && decide (l.length ≤ 13)
def number (l : Bs) : Nat × Bool := if d1q l ∧ dec l ≤ maxNumber then (dec l, true) else (0, false)
def qloop : Bs → Bs → Nat → Option (Bs × Nat)
  | [], _, _ => none
  | c :: r, acc, n =>
    if d5l c = false then none
    else if c.toNat = 34 then some (acc, n)
    else if c.toNat = 92 then
      match r with
      | [] => none
      | d :: r' => if d.toNat = 34 ∨ d.toNat = 92 then qloop r' (acc ++ [d]) (n + 2) else none
    else qloop r (acc ++ [c]) (n + 1)
def quoted (l : Bs) : Bs × Nat :=
  match qloop (l.drop 1) [] 1 with
  | none => ([], 0)
  | some (v, n) => if v.length > 400 then ([], 0) else (v, n + 1)
end Go.Proofs.YtknpjecpcmajiaaGreat.Lx

namespace Go.Proofs.YtknpjecpcmajiaaGreat.Lx
open Rt M Go
theorem b7t {s r : Rt.Bs} {i : Nat} {c : UInt8} (h : s.drop i = c :: r) : sidx s (i : Int) = some (c.toNat : Int) := by
 have h1 : s[i]? = some c := by
  have := congrArg (·[0]?) h
  simpa using this
 simp [sidx, h1]
theorem c7s {s r : Rt.Bs} {i : Nat} {c : UInt8} (h : s.drop i = c :: r) : i + r.length + 1 = s.length := by
 have := congrArg List.length h
 simp only [List.length_drop, List.length_cons] at this
 omega
theorem c0z {s r : Rt.Bs} {i : Nat} {c : UInt8} (h : s.drop i = c :: r) : s.drop (i + 1) = r := by
 rw [← List.drop_drop, h, List.drop_one, List.tail_cons]
theorem drop_nil {s : Rt.Bs} {i : Nat} (h : s.drop i = []) (hi : i ≤ s.length) : i = s.length := by
 have := congrArg List.length h
 simp only [List.length_drop, List.length_nil] at this
 omega
theorem a6n (x : Int) (h1 : -9223372036854775808 ≤ x) (h2 : x < 9223372036854775808) : IntKind.i64.wrap x = x := by
 simp [IntKind.wrap, IntKind.signed, IntKind.bits]
 split <;> omega
theorem d2j (a b : Nat) (h : a + b < 9223372036854775808) : iadd .i64 (a : Int) (b : Int) = ((a + b : Nat) : Int) := by
 rw [iadd, a6n _ (by omega) (by omega)]; simp
theorem c5b (a : Nat) (h : a + 1 < 9223372036854775808) : iadd .i64 (a : Int) 1 = ((a + 1 : Nat) : Int) := d2j a 1 h
theorem b6x {p : UInt8 → Bool} (h : (List.range 256).all (fun k => p (UInt8.ofNat k)) = true) (c : UInt8) : p c = true := by
 have := List.all_eq_true.mp h c.toNat (by simpa using c.toNat_lt)
 simpa using this
theorem letter_eq (n : Nat) (c : UInt8) : a9q n (c.toNat : Int) = some (isLetter c) :=
 of_decide_eq_true (b6x (p := fun c => decide (a9q 0 (c.toNat : Int) = some (isLetter c))) (by decide +kernel) c)
theorem d2r (n : Nat) (c : UInt8) : b0n n (c.toNat : Int) = some (b2b c) :=
 of_decide_eq_true (b6x (p := fun c => decide (b0n 0 (c.toNat : Int) = some (b2b c))) (by decide +kernel) c)
theorem c4y {p : UInt8 → Bool} {f : Int → Option Bool} (hf : ∀ c : UInt8, f c.toNat = some (p c)) {s : Rt.Bs} (hs : s.length < 9223372036854775807) {n : Nat} {kont : Int → Option Int} :
  ∀ {r : Rt.Bs} {i m : Nat}, s.drop i = r → i ≤ s.length → r.length < m → a7g n s f kont m (i : Int) = kont ((i + b7g p r : Nat) : Int)
 | [], i, m + 1, h, hi, _ => by
  have := drop_nil h hi
  rw [b2l]
  simp [this, b7g]
 | c :: r, i, m + 1, h, hi, hm => by
  have h1 := c7s h
  rw [b2l, b7t h, decide_eq_true (by omega)]
  simp only [cond_true, Option.bind_some, hf]
  cases hp : p c
  ·simp [b7g, hp]
  ·rw [cond_true, c5b _ (by omega), c4y hf hs (c0z h) (by omega) (by simp only [List.length_cons] at hm; omega)]
   simp only [b7g, hp, cond_true]
   congr 2; omega
theorem d4z {p : UInt8 → Bool} {f : Int → Option Bool} (hf : ∀ c : UInt8, f c.toNat = some (p c)) {s : Rt.Bs} (hs : s.length < 9223372036854775807) {n : Nat} (hn : s.length < n) :
  b3j n s f = some ((b7g p s : Nat) : Int) := by
 have := c4y hf hs (n := n) (kont := fun nx2 => some nx2) (r := s) (i := 0) (m := n) (by simp) (by omega) hn
 simpa [b3j] using this
theorem headD_idx {s : Rt.Bs} (h : s ≠ []) : sidx s 0 = some ((s.headD 0).toNat : Int) := by
 cases s with
 | nil => exact absurd rfl h
 | cons c r => exact b7t (i := 0) rfl
theorem name_eq {s : Rt.Bs} (hs : s.length < 9223372036854775807) {n : Nat} (hn : s.length < n) : a6h n s = some (name s) := by
 cases hs0 : s with
 | nil => rfl
 | cons c r =>
  rw [← hs0]
  have h0 : s ≠ [] := by rw [hs0]; simp
  have h1 : (s == []) = false := by simp [hs0]
  simp only [a6h, h1, Bool.not_false, cond_true, headD_idx h0, Option.bind_some, letter_eq, d4z (d2r n) hs hn, name]
  have h2 : s.isEmpty = false := by simp [hs0]
  rw [h2]
  cases isLetter (s.headD 0) <;> by_cases h3 : s.length ≤ 20 <;> simp [h3]
  ·rw [decide_eq_true (by omega)]
   simp only [cond_true, Option.some.injEq]
   rw [Bool.eq_iff_iff]; simp; omega
  ·rw [decide_eq_false (by omega)]; simp
end Go.Proofs.YtknpjecpcmajiaaGreat.Lx

namespace Go.Proofs.YtknpjecpcmajiaaGreat.Lx
open Rt M Go
def ints (l : Rt.Bs) : List Int := l.map fun c => (c.toNat : Int)
theorem c4x {c : UInt8} (h : isLetter c = true) : b2b c = true := by
 simp only [isLetter, b2b, decide_eq_true_eq] at *; omega
end Go.Proofs.YtknpjecpcmajiaaGreat.Lx

namespace Go.Proofs.YtknpjecpcmajiaaGreat.Ta
open Go Rt M
inductive Fit : M.Expr → Prop
  | mk {o n : Int} {s : Rt.Bs} {l : List M.Expr} : l.length ≤ 1000000 → (∀ y, y ∈ l → Fit y) → Fit ⟨o, n, s, l⟩
theorem Fit.leaf (o n : Int) (s : Rt.Bs) : Fit ⟨o, n, s, []⟩ := Fit.mk (by simp) (by simp)
theorem Fit.one {x : M.Expr} (o n : Int) (s : Rt.Bs) (h : Fit x) : Fit ⟨o, n, s, [x]⟩ := Fit.mk (by simp) (by simpa using h)
theorem Fit.two {x y : M.Expr} (o n : Int) (s : Rt.Bs) (h : Fit x) (h2 : Fit y) : Fit ⟨o, n, s, [x, y]⟩ := Fit.mk (by simp) (by simp [h, h2])
end Go.Proofs.YtknpjecpcmajiaaGreat.Ta

namespace Go.Proofs.YtknpjecpcmajiaaGreat.Ta
open Go Rt M
theorem left {k m : Nat} (h : k < m) : ∃ j, m = j + 1 := ⟨m - 1, by omega⟩
theorem pred {k m : Nat} (h : k + 1 < m) : ∃ j, m = j + 1 ∧ k < j := ⟨m - 1, by omega, by omega⟩
theorem b8a (s : Rt.Bs) : Ev (fun n => a6h n s) (Lx.name s) := by
 refine ⟨21, fun n hn => ?_⟩
 by_cases h : s.length ≤ 20
 ·exact Lx.name_eq (by omega) (by omega)
 ·have h0 : s ≠ [] := by intro e; rw [e] at h; simp at h
  have h1 : (s == []) = false := by simpa using h0
  have h2 : Lx.name s = false := by unfold Lx.name; rw [decide_eq_false h]; simp
  rw [h2]
  unfold a6h
  dsimp only
  rw [h1, Bool.not_false, cond_true, Lx.headD_idx h0, Option.bind_some, Lx.letter_eq, Option.bind_some, Option.bind_some]
  cases Lx.isLetter (s.headD 0)
  ·rfl
  ·rw [cond_true, decide_eq_false (show ¬ (s.length : Int) ≤ 20 by omega)]; rfl
theorem c6h (n : Nat) (l : List Rt.Bs) (s : Rt.Bs) (hl : l.length < 4611686018427387904) : ∀ (us : List Rt.Bs) (i m : Nat), l.drop i = us → us.length < m →
  a2f n l s (some (-1)) m (i : Int) = some (if s ∈ us then ((i + us.idxOf s : Nat) : Int) else -1)
 | [], i, m + 1, hd, _ => by rw [a4z, a6f hd]; rfl
 | x :: us, i, m + 1, hd, hm => by
  obtain ⟨h1, h2, h3⟩ := drop_cons hd
  have ih := c6h n l s hl us (i + 1) m h2 (by simp only [List.length_cons] at hm; omega)
  rw [a4z, a3e hd, cond_true, h1, Option.bind_some]
  by_cases h : s = x
  ·subst h
   rw [beq_self_eq_true, cond_true, if_pos (by simp)]; simp
  ·have e : (s == x) = false := by simpa using h
   rw [e, cond_false, inc64 (by omega), ih]
   by_cases h5 : s ∈ us
   ·rw [if_pos h5, if_pos (List.mem_cons_of_mem _ h5), List.idxOf_cons, show (x == s) = false by simpa using fun h6 => h h6.symm]
    simp only [cond_false]; congr 1; omega
   ·rw [if_neg h5, if_neg (by simp [h, h5])]
theorem b2n {l : List Rt.Bs} (s : Rt.Bs) (hl : l.length < 4611686018427387904) : Ev (fun n => a1t n l s) (decide (s ∈ l)) := by
 refine ⟨l.length + 1, fun n hn => ?_⟩
 unfold a1t a2n
 dsimp only
 have h : a2f n l s (some (-1)) n 0 = _ := c6h n l s hl l 0 n rfl (by omega)
 rw [h, Option.bind_some]
 by_cases h5 : s ∈ l
 ·rw [if_pos h5, decide_eq_true h5, decide_eq_true (by omega)]
 ·rw [if_neg h5, decide_eq_false h5]; rfl
def b7u (l : List Rt.Bs) : Nat → List Rt.Bs → Bool
  | _, [] => decide ((l.length : Int) ≤ 6)
  | i, s :: us => Lx.name s && (!decide (s ∈ l.take i) && b7u l (i + 1) us)
def d0i (l : List Rt.Bs) : Bool := b7u l 0 l
theorem d0q (l : List Rt.Bs) (hl : l.length < 4611686018427387904) : ∀ (us : List Rt.Bs) (i : Nat), l.drop i = us → ∃ N, ∀ n m, N ≤ n → us.length < m →
  a6c n l (some (decide ((l.length : Int) ≤ 6))) m (i : Int) = some (b7u l i us)
 | [], i, hd => by
  refine ⟨0, fun n m _ hm => ?_⟩
  obtain ⟨m, rfl⟩ := left hm
  rw [b0q, a6f hd]; rfl
 | s :: us, i, hd => by
  obtain ⟨h1, h2, h3⟩ := drop_cons hd
  obtain ⟨N, ih⟩ := d0q l hl us (i + 1) h2
  obtain ⟨N1, e1⟩ := b8a s
  obtain ⟨N2, e2⟩ := b2n (l := l.take i) s (by simp; omega)
  refine ⟨max N (max N1 N2), fun n m hn hm => ?_⟩
  obtain ⟨m, rfl, hm2⟩ := pred (by simpa using hm)
  have e1 : a6h n s = some (Lx.name s) := e1 n (by omega)
  have e2 : a1t n (l.take i) s = some (decide (s ∈ l.take i)) := e2 n (by omega)
  rw [b0q, a3e hd, cond_true, h1, Option.bind_some, e1, Option.bind_some]
  unfold b7u
  cases Lx.name s with
  | false => rfl
  | true =>
   have e3 : lsl l 0 (i : Int) = some (l.take i) := by
    have := c7h (l := l) (p := 0) (q := i) (by omega) (by omega)
    simpa using this
   rw [Bool.not_true, cond_false, e3, Option.bind_some, e2, Option.bind_some, Option.bind_some, Bool.true_and]
   cases decide (s ∈ l.take i) with
   | true => rfl
   | false => rw [cond_false, inc64 (by omega), ih n m (by omega) hm2]; rfl
theorem b9i {l : List Rt.Bs} (hl : l.length < 4611686018427387904) : Ev (fun n => b2w n l) (d0i l) := by
 obtain ⟨N, h⟩ := d0q l hl l 0 rfl
 exact ⟨N + l.length + 1, fun n hn => h n n (by omega) (by omega)⟩
theorem c9z (x : M.Expr) (lv : Int) (hx : x.Args.length ≤ 1000000) : ∀ (us : List M.Expr) (i : Nat) (lf : Int), x.Args.drop i = us → (∀ y, y ∈ us → ∀ lv lf : Int, Tt (fun _ => True) (fun n => tariff_sized n y lv lf)) →
  ∃ N r, ∀ n m, N ≤ n → us.length < m → a4h n (tariff_sized n) x lv (fun f2 => some (f2, true)) m (i : Int) lf = some r
 | [], i, lf, hd, _ => by
  refine ⟨0, (lf, true), fun n m _ hm => ?_⟩
  obtain ⟨m, rfl⟩ := left hm
  rw [a4c, a6f hd]; rfl
 | y :: us, i, lf, hd, H => by
  obtain ⟨h1, h2, h3⟩ := drop_cons hd
  obtain ⟨⟨l2, b⟩, ⟨N1, e1⟩, _⟩ := H y (by simp) (isub .i64 lv 1) lf
  obtain ⟨N, r, ih⟩ := c9z x lv hx us (i + 1) l2 h2 (fun z hz => H z (by simp [hz]))
  refine ⟨max N N1, bif b then r else (l2, false), fun n m hn hm => ?_⟩
  obtain ⟨m, rfl, hm2⟩ := pred (by simpa using hm)
  have e1 : tariff_sized n y (isub .i64 lv 1) lf = some (l2, b) := e1 n (by omega)
  rw [a4c, a3e hd, cond_true, h1, Option.bind_some, e1, Option.bind_some]
  dsimp only
  cases b with
  | false => rfl
  | true => rw [Bool.not_true, cond_false, inc64 (by omega), ih n m (by omega) hm2]; rfl
theorem sized_t {x : M.Expr} (hx : Fit x) : ∀ lv lf : Int, Tt (fun _ => True) (fun n => tariff_sized n x lv lf) := by
 induction hx with
 | @mk o k s l hl _ ih =>
  intro lv lf
  refine Tt.suc (g := fun n => _) (fun n => a7m n _ _ _) ?_
  refine Tt.cond (fun b => ?_) true
  refine Tt.bif (fun _ => Tt.pure trivial) (fun _ => ?_)
  obtain ⟨N, r, h⟩ := c9z ⟨o, k, s, l⟩ lv hl l 0 (isub .i64 lf 1) rfl ih
  exact ⟨r, ⟨N + l.length + 1, fun n hn => h n n (by omega) (by omega)⟩, trivial⟩
def b6u (o : Int) : Int := if o ≤ 4 then 0 else if o = 14 then 1 else if o = 11 then 3 else 2
theorem c7a (n : Nat) (o : Int) : a9f n o = some (b6u o) := by
 unfold a9f b6u
 by_cases h1 : o ≤ 4
 ·rw [decide_eq_true h1, if_pos h1]; rfl
 ·rw [decide_eq_false h1, if_neg h1, cond_false]
  by_cases h2 : o = 14
  ·subst h2; rfl
  ·rw [show (o == 14) = false by simpa using h2, if_neg h2, cond_false]
   by_cases h3 : o = 11
   ·subst h3; rfl
   ·rw [show (o == 11) = false by simpa using h3, if_neg h3]; rfl
inductive Shp : M.Expr → Prop
  | mk {o n : Int} {s : Rt.Bs} {l : List M.Expr} : 0 ≤ o → o ≤ 16 → (l.length : Int) = b6u o → (∀ y, y ∈ l → Shp y) → Shp ⟨o, n, s, l⟩
theorem c0u (l : List M.Expr) (hl : l.length ≤ 1000000) (f : Nat → M.Expr → Option Bool) (Q : M.Expr → Prop) : ∀ (us : List M.Expr) (i : Nat), l.drop i = us → (∀ y, y ∈ us → Tt (fun b => b = false → Q y) (fun n => f n y)) →
  ∃ N r, (r = -1 ∧ (∀ y, y ∈ us → Q y) ∨ 0 ≤ r) ∧ ∀ n m, N ≤ n → us.length < m → a1l n l (f n) (some (-1)) m (i : Int) = some r
 | [], i, hd, _ => by
  refine ⟨0, -1, .inl ⟨rfl, by simp⟩, fun n m _ hm => ?_⟩
  obtain ⟨m, rfl⟩ := left hm
  rw [a1m, a6f hd]; rfl
 | y :: us, i, hd, H => by
  obtain ⟨h1, h2, h3⟩ := drop_cons hd
  obtain ⟨b, ⟨N1, e1⟩, hb⟩ := H y (by simp)
  obtain ⟨N, r, hr, ih⟩ := c0u l hl f Q us (i + 1) h2 (fun z hz => H z (by simp [hz]))
  cases b with
  | true =>
   refine ⟨N1, (i : Int), .inr (by omega), fun n m hn hm => ?_⟩
   obtain ⟨m, rfl⟩ := left hm
   have e1 : f n y = some true := e1 n (by omega)
   rw [a1m, a3e hd, cond_true, h1, Option.bind_some, e1]; rfl
  | false =>
   refine ⟨max N N1, r, hr.imp (fun h => ⟨h.1, by simpa using ⟨hb rfl, h.2⟩⟩) id, fun n m hn hm => ?_⟩
   obtain ⟨m, rfl, hm2⟩ := pred (by simpa using hm)
   have e1 : f n y = some false := e1 n (by omega)
   rw [a1m, a3e hd, cond_true, h1, Option.bind_some, e1, Option.bind_some, cond_false, inc64 (by omega)]
   exact ih n m (by omega) hm2
theorem c1p (l : List M.Expr) (hl : l.length ≤ 1000000) (f : Nat → M.Expr → Option Bool) (Q : M.Expr → Prop) (H : ∀ y, y ∈ l → Tt (fun b => b = false → Q y) (fun n => f n y)) :
  Tt (fun b => b = false → ∀ y, y ∈ l → Q y) (fun n => a1p n l (f n)) := by
 obtain ⟨N, r, hr, ih⟩ := c0u l hl f Q l 0 rfl H
 refine ⟨decide (0 ≤ r), ⟨N + l.length + 1, fun n hn => ?_⟩, fun hb => ?_⟩
 ·unfold a1p a2q
  dsimp only
  have e : a1l n l (f n) (some (-1)) n 0 = some r := ih n n (by omega) (by omega)
  rw [e]; rfl
 ·have := of_decide_eq_false hb
  rcases hr with h | h
  ·exact h.2
  ·omega
theorem d2p {x : M.Expr} (hx : Fit x) : Tt (fun b => b = true → Shp x) (fun n => tariff_shaped n x) := by
 induction hx with
 | @mk o k s l hl _ ih =>
  refine Tt.suc (fun n => a5g n _) ?_
  refine Tt.bind (P := fun b => b = false → 0 ≤ o ∧ o ≤ 16) (Tt.bif (fun h => Tt.pure fun h => by cases h) (fun h => Tt.pure fun h2 => ?_)) ?_
  ·have h1 := of_decide_eq_false h
   have h3 := of_decide_eq_false h2
   dsimp only at h1 h3
   omega
  intro b hb
  refine Tt.bind (P := fun c => c = false → (0 ≤ o ∧ o ≤ 16) ∧ (l.length : Int) = b6u o) (Tt.bif (fun h => Tt.pure fun h => by cases h) (fun h => ?_)) ?_
  ·refine Tt.evb (Ev.all fun n => c7a n _) (Tt.pure fun h2 => ⟨hb h, by simpa using h2⟩)
  intro c hc
  refine Tt.bif (fun _ => Tt.pure fun h => by cases h) (fun h => ?_)
  obtain ⟨⟨h1, h2⟩, h3⟩ := hc h
  refine Tt.bif (fun h0 => ?_) (fun h0 => ?_)
  ·have h0' : o = 0 := by simpa using h0
   subst h0'
   have hz : l = [] := by
    have : (l.length : Int) = 0 := h3
    exact List.length_eq_zero_iff.1 (by omega)
   subst hz
   refine Tt.bind (P := fun _ => True) (Tt.bif (fun _ => Tt.pure trivial) (fun _ => Tt.pure trivial)) fun _ _ => ?_
   refine Tt.bind (P := fun _ => True) (Tt.bif (fun _ => Tt.pure trivial) (fun _ => Tt.pure trivial)) fun _ _ => ?_
   exact Tt.pure fun _ => Shp.mk h1 h2 h3 (by simp)
  refine Tt.bind (P := fun b => b = true → o = 1 ∨ o = 4) (Tt.bif (fun h => Tt.pure fun _ => .inl (by simpa using h)) (fun _ => Tt.pure fun h => .inr (by simpa using h))) ?_
  intro b1 hb1
  refine Tt.bif (fun h4 => ?_) (fun h4 => ?_)
  ·have hz : l = [] := by
    have : (l.length : Int) = 0 := by rw [h3]; rcases hb1 h4 with rfl | rfl <;> rfl
    exact List.length_eq_zero_iff.1 (by omega)
   subst hz
   refine Tt.bind (P := fun _ => True) (Tt.bif (fun _ => ?_) (fun _ => Tt.pure trivial)) fun _ _ => ?_
   ·exact Tt.evb (b8a _) (Tt.pure trivial)
   ·exact Tt.pure fun _ => Shp.mk h1 h2 h3 (by simp)
  refine Tt.bind (P := fun _ => True) (Tt.bif (fun _ => Tt.pure trivial) (fun _ => Tt.pure trivial)) fun _ _ => ?_
  refine Tt.bind (P := fun b => b = true → ∀ y, y ∈ l → Shp y) (Tt.bif (fun _ => ?_) (fun _ => Tt.pure fun h => by cases h)) ?_
  ·refine Tt.bind (c1p l hl tariff_shaped_1 Shp (fun y hy => ?_)) ?_
   ·refine Tt.suc (fun n => a8m n _) ?_
    refine Tt.bind (ih y hy) ?_
    intro b hb
    exact Tt.pure fun h => hb (by simpa using h)
   ·intro b hb
    exact Tt.pure fun h => hb (by simpa using h)
  ·intro b hb
   exact Tt.pure fun h => Shp.mk h1 h2 h3 (hb h)
end Go.Proofs.YtknpjecpcmajiaaGreat.Ta

namespace Go.Proofs.YtknpjecpcmajiaaGreat.Tp
open Go Rt M Ta
mutual
def cnt : M.Expr → Nat
  | ⟨_, _, _, l⟩ => cnts l + 1
def cnts : List M.Expr → Nat
  | [] => 0
  | x :: l => cnt x + cnts l
 end
mutual
def dep : M.Expr → Nat
  | ⟨_, _, _, l⟩ => deps l + 1
def deps : List M.Expr → Nat
  | [] => 0
  | x :: l => max (dep x) (deps l)
 end
theorem d4j {a : Nat} (h : 1 ≤ a) (h2 : a ≤ 1000000) : isub .i64 (a : Int) 1 = ((a - 1 : Nat) : Int) := by rw [a2k (by omega) (by omega)]; omega
def Siz (d c lv lf : Nat) (r : Int × Bool) : Prop := (r.2 = true → d ≤ lv ∧ c ≤ lf ∧ r.1 = ((lf - c : Nat) : Int)) ∧ (d ≤ lv → c ≤ lf → r.2 = true)
theorem c7n (x : M.Expr) (lv : Nat) (hv1 : 1 ≤ lv) (hv : lv ≤ 1000000) (hx : x.Args.length ≤ 1000000) : ∀ (us : List M.Expr) (i lf : Nat), lf ≤ 1000000 → x.Args.drop i = us → (∀ y, y ∈ us → ∀ lv lf : Nat, lv ≤ 1000000 → lf ≤ 1000000 → Tt (Siz (dep y) (cnt y) lv lf) (fun n => tariff_sized n y lv lf)) →
  ∃ N r, Siz (deps us) (cnts us) (lv - 1) lf r ∧ ∀ n m, N ≤ n → us.length < m → a4h n (tariff_sized n) x (lv : Int) (fun f2 => some (f2, true)) m (i : Int) (lf : Int) = some r
 | [], i, lf, hlf, hd, _ => by
  refine ⟨0, (lf, true), ⟨fun _ => ⟨Nat.zero_le _, Nat.zero_le _, rfl⟩, fun _ _ => rfl⟩, fun n m _ hm => ?_⟩
  obtain ⟨m, rfl⟩ := left hm
  rw [a4c, a6f hd]; rfl
 | y :: us, i, lf, hlf, hd, H => by
  obtain ⟨h1, h2, h3⟩ := drop_cons hd
  obtain ⟨⟨l2, b⟩, ⟨N1, e1⟩, q1, q2⟩ := H y (by simp) (lv - 1) lf (by omega) hlf
  rw [← d4j hv1 hv] at e1
  have hcs : cnts (y :: us) = cnt y + cnts us := rfl
  have hds : deps (y :: us) = max (dep y) (deps us) := rfl
  cases b with
  | false =>
   have h5 : ¬(dep y ≤ lv - 1 ∧ cnt y ≤ lf) := fun h => by have := q2 h.1 h.2; cases this
   refine ⟨N1, (l2, false), ⟨fun h => (by cases h), fun h6 h7 => absurd ⟨by omega, by omega⟩ h5⟩, fun n m hn hm => ?_⟩
   obtain ⟨m, rfl⟩ := left hm
   have e1 : tariff_sized n y (isub .i64 lv 1) lf = some (l2, false) := e1 n (by omega)
   rw [a4c, a3e hd, cond_true, h1, Option.bind_some, e1, Option.bind_some]; rfl
  | true =>
   obtain ⟨h5, h6, h7⟩ := q1 rfl
   dsimp only at h7
   subst h7
   obtain ⟨N, r, ⟨hr1, hr2⟩, ih⟩ := c7n x lv hv1 hv hx us (i + 1) (lf - cnt y) (by omega) h2 (fun z hz => H z (by simp [hz]))
   refine ⟨max N N1, r, ⟨fun h => ?_, fun h8 h9 => hr2 (by omega) (by omega)⟩, fun n m hn hm => ?_⟩
   ·obtain ⟨g1, g2, g3⟩ := hr1 h
    exact ⟨by omega, by omega, by rw [g3]; congr 1; omega⟩
   ·obtain ⟨m, rfl, hm2⟩ := pred (by simpa using hm)
    have e1 : tariff_sized n y (isub .i64 lv 1) lf = some (((lf - cnt y : Nat) : Int), true) := e1 n (by omega)
    rw [a4c, a3e hd, cond_true, h1, Option.bind_some, e1, Option.bind_some]
    dsimp only
    rw [Bool.not_true, cond_false, inc64 (by omega), ih n m (by omega) hm2]
theorem d5m {x : M.Expr} (hx : Fit x) : ∀ lv lf : Nat, lv ≤ 1000000 → lf ≤ 1000000 → Tt (Siz (dep x) (cnt x) lv lf) (fun n => tariff_sized n x lv lf) := by
 induction hx with
 | @mk o k s l hl _ ih =>
  intro lv lf hv hf
  have hd : dep ⟨o, k, s, l⟩ = deps l + 1 := rfl
  have hc : cnt ⟨o, k, s, l⟩ = cnts l + 1 := rfl
  refine Tt.suc (g := fun n => _) (fun n => a7m n _ _ _) ?_
  have hsub : isub .i64 (lf : Int) 1 = (lf : Int) - 1 := a2k (by omega) (by omega)
  rw [hsub]
  refine Tt.bind (P := fun b => b = true ↔ (lv < 1 ∨ lf < 1)) (Tt.bif (fun h => Tt.pure (by have := of_decide_eq_true h; simp only [true_iff]; omega)) (fun h => Tt.pure ?_)) ?_
  ·have := of_decide_eq_false h
   rw [decide_eq_true_iff]; omega
  intro b hb
  refine Tt.bif (fun h => Tt.pure ⟨fun h => (by cases h), fun h1 h2 => ?_⟩) (fun h => ?_)
  ·have := hb.1 h; omega
  have h3 : ¬(lv < 1 ∨ lf < 1) := fun h4 => by have := hb.2 h4; rw [this] at h; cases h
  have e : (lf : Int) - 1 = ((lf - 1 : Nat) : Int) := by omega
  rw [e]
  obtain ⟨N, r, ⟨hr1, hr2⟩, hh⟩ := c7n ⟨o, k, s, l⟩ lv (by omega) hv hl l 0 (lf - 1) (by omega) rfl ih
  refine ⟨r, ⟨N + l.length + 1, fun n hn => hh n n (by omega) (by omega)⟩, fun h => ?_, fun h4 h5 => hr2 (by omega) (by omega)⟩
  obtain ⟨g1, g2, g3⟩ := hr1 h
  exact ⟨by omega, by omega, by rw [g3]; congr 1; omega⟩
def a9l (o n : Int) (s : Rt.Bs) : Prop := if o = 0 then (0 ≤ n ∧ n ≤ 1099511627776) ∧ s = [] else if o = 1 ∨ o = 4 then n = 0 ∧ Lx.name s = true else n = 0 ∧ s = []
inductive Shx : M.Expr → Prop
  | mk {o n : Int} {s : Rt.Bs} {l : List M.Expr} : 0 ≤ o → o ≤ 16 → (l.length : Int) = b6u o → a9l o n s → (∀ y, y ∈ l → Shx y) → Shx ⟨o, n, s, l⟩
theorem b8t (l : List M.Expr) (hl : l.length ≤ 1000000) (f : Nat → M.Expr → Option Bool) (Q : M.Expr → Prop) : ∀ (us : List M.Expr) (i : Nat), l.drop i = us → (∀ y, y ∈ us → Tt (fun b => b = false ↔ Q y) (fun n => f n y)) →
  ∃ N r, (r = -1 ∧ (∀ y, y ∈ us → Q y) ∨ 0 ≤ r ∧ ¬∀ y, y ∈ us → Q y) ∧ ∀ n m, N ≤ n → us.length < m → a1l n l (f n) (some (-1)) m (i : Int) = some r
 | [], i, hd, _ => by
  refine ⟨0, -1, .inl ⟨rfl, by simp⟩, fun n m _ hm => ?_⟩
  obtain ⟨m, rfl⟩ := left hm
  rw [a1m, a6f hd]; rfl
 | y :: us, i, hd, H => by
  obtain ⟨h1, h2, h3⟩ := drop_cons hd
  obtain ⟨b, ⟨N1, e1⟩, hb⟩ := H y (by simp)
  obtain ⟨N, r, hr, ih⟩ := b8t l hl f Q us (i + 1) h2 (fun z hz => H z (by simp [hz]))
  cases b with
  | true =>
   refine ⟨N1, (i : Int), .inr ⟨by omega, fun h => ?_⟩, fun n m hn hm => ?_⟩
   ·have := hb.2 (h y (by simp)); cases this
   obtain ⟨m, rfl⟩ := left hm
   have e1 : f n y = some true := e1 n (by omega)
   rw [a1m, a3e hd, cond_true, h1, Option.bind_some, e1]; rfl
  | false =>
   refine ⟨max N N1, r, hr.imp (fun h => ⟨h.1, by simpa using ⟨hb.1 rfl, h.2⟩⟩) (fun h => ⟨h.1, fun h5 => h.2 fun z hz => h5 z (by simp [hz])⟩), fun n m hn hm => ?_⟩
   obtain ⟨m, rfl, hm2⟩ := pred (by simpa using hm)
   have e1 : f n y = some false := e1 n (by omega)
   rw [a1m, a3e hd, cond_true, h1, Option.bind_some, e1, Option.bind_some, cond_false, inc64 (by omega)]
   exact ih n m (by omega) hm2
theorem c0a (l : List M.Expr) (hl : l.length ≤ 1000000) (f : Nat → M.Expr → Option Bool) (Q : M.Expr → Prop) (H : ∀ y, y ∈ l → Tt (fun b => b = false ↔ Q y) (fun n => f n y)) :
  Tt (fun b => b = false ↔ ∀ y, y ∈ l → Q y) (fun n => a1p n l (f n)) := by
 obtain ⟨N, r, hr, ih⟩ := b8t l hl f Q l 0 rfl H
 refine ⟨decide (0 ≤ r), ⟨N + l.length + 1, fun n hn => ?_⟩, ?_⟩
 ·unfold a1p a2q
  dsimp only
  have e : a1l n l (f n) (some (-1)) n 0 = some r := ih n n (by omega) (by omega)
  rw [e]; rfl
 ·show decide (0 ≤ r) = false ↔ _
  rw [decide_eq_false_iff_not]
  rcases hr with h | h
  ·exact ⟨fun _ => h.2, fun _ => by omega⟩
  ·exact ⟨fun h5 => absurd h.1 h5, fun h5 => absurd h5 h.2⟩
theorem Shx.inv {o n : Int} {s : Rt.Bs} {l : List M.Expr} (h : Shx ⟨o, n, s, l⟩) : 0 ≤ o ∧ o ≤ 16 ∧ (l.length : Int) = b6u o ∧ a9l o n s ∧ ∀ y, y ∈ l → Shx y := by
 cases h with
 | mk h1 h2 h3 h4 h5 => exact ⟨h1, h2, h3, h4, h5⟩
theorem d1o {x : M.Expr} (hx : Fit x) : Tt (fun b => b = true ↔ Shx x) (fun n => tariff_shaped n x) := by
 induction hx with
 | @mk o k s l hl _ ih =>
  refine Tt.suc (fun n => a5g n _) ?_
  refine Tt.bind (P := fun b => b = false ↔ 0 ≤ o ∧ o ≤ 16) (Tt.bif (fun h => Tt.pure ?_) (fun h => Tt.pure ?_)) ?_
  ·have h1 := of_decide_eq_true h
   dsimp only at h1
   exact ⟨fun h => (by cases h), fun h => by omega⟩
  ·have h1 := of_decide_eq_false h
   dsimp only at h1
   rw [decide_eq_false_iff_not]
   dsimp only
   omega
  intro b hb
  refine Tt.bind (P := fun c => c = false ↔ (0 ≤ o ∧ o ≤ 16) ∧ (l.length : Int) = b6u o) (Tt.bif (fun h => Tt.pure ?_) (fun h => ?_)) ?_
  ·exact ⟨fun h => (by cases h), fun h5 => by have := hb.2 h5.1; rw [this] at h; cases h⟩
  ·refine Tt.evb (Ev.all fun n => c7a n _) (Tt.pure ?_)
   have := hb.1 h
   simp only [bne_eq_false_iff_eq, this, true_and]
  intro c hc
  refine Tt.bif (fun h => Tt.pure ⟨fun h => (by cases h), fun h5 => ?_⟩) (fun h => ?_)
  ·have h6 := h5.inv
   have := hc.2 ⟨⟨h6.1, h6.2.1⟩, h6.2.2.1⟩
   rw [this] at h; cases h
  obtain ⟨⟨h1, h2⟩, h3⟩ := hc.1 h
  have fin : ∀ {b : Bool}, (b = true ↔ a9l o k s ∧ ∀ y, y ∈ l → Shx y) → (b = true ↔ Shx ⟨o, k, s, l⟩) := fun {b} hb => hb.trans ⟨fun h => Shx.mk h1 h2 h3 h.1 h.2, fun h => ⟨h.inv.2.2.2.1, h.inv.2.2.2.2⟩⟩
  refine Tt.bif (fun h0 => ?_) (fun h0 => ?_)
  ·have h0' : o = 0 := by simpa using h0
   subst h0'
   have hz : l = [] := by
    have : (l.length : Int) = 0 := h3
    exact List.length_eq_zero_iff.1 (by omega)
   subst hz
   refine Tt.bind (P := fun b => b = true ↔ 0 ≤ k ∧ k ≤ 1099511627776) (Tt.bif (fun h => Tt.pure ?_) (fun h => Tt.pure ?_)) fun b hb => ?_
   ·have h5 := of_decide_eq_true h
    rw [decide_eq_true_iff]
    exact ⟨fun h6 => ⟨h5, h6⟩, fun h6 => h6.2⟩
   ·have h5 := of_decide_eq_false h
    exact ⟨fun h6 => (by cases h6), fun h6 => absurd h6.1 h5⟩
   refine Tt.bind (P := fun b => b = true ↔ (0 ≤ k ∧ k ≤ 1099511627776) ∧ s = []) (Tt.bif (fun h => Tt.pure ?_) (fun h => Tt.pure ?_)) fun b hb2 => ?_
   ·have := hb.1 h
    simp [this]
   ·exact ⟨fun h6 => (by cases h6), fun h6 => by rw [hb.2 h6.1] at h; cases h⟩
   refine Tt.pure (fin ?_)
   rw [hb2]
   exact ⟨fun h => ⟨h, by simp⟩, fun h => h.1⟩
  have hn0 : o ≠ 0 := by simpa using h0
  refine Tt.bind (P := fun b => b = true ↔ o = 1 ∨ o = 4) (Tt.bif (fun h => Tt.pure ?_) (fun h => Tt.pure ?_)) ?_
  ·have : o = 1 := by simpa using h
   exact ⟨fun _ => .inl this, fun _ => rfl⟩
  ·have : o ≠ 1 := by simpa using h
   simp [this]
  intro b1 hb1
  refine Tt.bif (fun h4 => ?_) (fun h4 => ?_)
  ·have ho := hb1.1 h4
   have hz : l = [] := by
    have : (l.length : Int) = 0 := by rw [h3]; rcases ho with rfl | rfl <;> rfl
    exact List.length_eq_zero_iff.1 (by omega)
   subst hz
   have hno : a9l o k s ↔ k = 0 ∧ Lx.name s = true := by unfold a9l; rw [if_neg hn0, if_pos ho]
   refine Tt.bind (P := fun b => b = true ↔ k = 0 ∧ Lx.name s = true) (Tt.bif (fun h => ?_) (fun h => Tt.pure ?_)) fun b hb => ?_
   ·have : k = 0 := by simpa using h
    refine Tt.evb (b8a _) (Tt.pure ?_)
    simp [this]
   ·have : k ≠ 0 := by simpa using h
    exact ⟨fun h => (by cases h), fun h => absurd h.1 this⟩
   refine Tt.pure (fin ?_)
   rw [hb, hno]
   exact ⟨fun h => ⟨h, by simp⟩, fun h => h.1⟩
  have ho : ¬(o = 1 ∨ o = 4) := fun h5 => by rw [hb1.2 h5] at h4; cases h4
  have hno : a9l o k s ↔ k = 0 ∧ s = [] := by unfold a9l; rw [if_neg hn0, if_neg ho]
  refine Tt.bind (P := fun b => b = true ↔ k = 0 ∧ s = []) (Tt.bif (fun h => Tt.pure ?_) (fun h => Tt.pure ?_)) fun b hb => ?_
  ·have : k = 0 := by simpa using h
   simp [this]
  ·have : k ≠ 0 := by simpa using h
   exact ⟨fun h => (by cases h), fun h => absurd h.1 this⟩
  refine Tt.bind (P := fun b => b = true ↔ a9l o k s ∧ ∀ y, y ∈ l → Shx y) (Tt.bif (fun h => ?_) (fun h => Tt.pure ?_)) ?_
  ·refine Tt.bind (c0a l hl tariff_shaped_1 Shx (fun y hy => ?_)) ?_
   ·refine Tt.suc (fun n => a8m n _) ?_
    refine Tt.bind (ih y hy) ?_
    intro b hb
    refine Tt.pure ?_
    rw [← hb]; cases b <;> simp
   ·intro b2 hb2
    refine Tt.pure ?_
    rw [hno, ← hb, ← hb2, h]
    cases b2 <;> simp
  ·exact ⟨fun h5 => (by cases h5), fun h5 => by rw [hno, ← hb] at h5; rw [h5.1] at h; cases h⟩
  ·intro b hb
   exact Tt.pure (fin hb)
def Frm (x : M.Expr) : Prop := (dep x ≤ 10 ∧ cnt x ≤ 100) ∧ Shx x
theorem d6h {x : M.Expr} (hx : Fit x) : Tt (fun b => b = true ↔ Frm x) (fun n => a9h n x) := by
 unfold a9h
 refine Tt.bind (d5m hx 10 100 (by decide) (by decide)) fun r hr => ?_
 have h5 : r.2 = true ↔ dep x ≤ 10 ∧ cnt x ≤ 100 := ⟨fun h => ⟨(hr.1 h).1, (hr.1 h).2.1⟩, fun h => hr.2 h.1 h.2⟩
 refine Tt.bind (P := fun b => b = true ↔ Frm x) (Tt.bif (fun h => ?_) (fun h => Tt.pure ?_)) fun b hb => Tt.pure hb
 ·refine Tt.bind (d1o hx) fun b hb => Tt.pure ?_
  unfold Frm
  rw [hb, ← h5, h]; simp
 ·exact ⟨fun h6 => (by cases h6), fun h6 => by rw [h5.2 h6.1] at h; cases h⟩
def Wrt (t : Tariff) : Prop := Lx.name t.Name = true ∧ Frm t.Fee ∧ -1 ≤ t.Cap ∧ t.Cap ≤ 1099511627776
theorem c8k {t : Tariff} (hx : Fit t.Fee) : Tt (fun b => b = true ↔ Wrt t) (fun n => a6d n t) := by
 unfold a6d
 refine Tt.evb (b8a _) ?_
 refine Tt.bind (P := fun b => b = true ↔ Lx.name t.Name = true ∧ Frm t.Fee) (Tt.bif (fun h => ?_) (fun h => Tt.pure ?_)) fun b hb => ?_
 ·refine Tt.bind (d6h hx) fun b hb => Tt.pure ?_
  rw [hb, h]; simp
 ·exact ⟨fun h6 => (by cases h6), fun h6 => by rw [h6.1] at h; cases h⟩
 refine Tt.bind (P := fun b => b = true ↔ (Lx.name t.Name = true ∧ Frm t.Fee) ∧ -1 ≤ t.Cap) (Tt.bif (fun h => Tt.pure ?_) (fun h => Tt.pure ?_)) fun b hb => ?_
 ·rw [decide_eq_true_iff, ← hb, h]; simp
 ·exact ⟨fun h6 => (by cases h6), fun h6 => by rw [hb.2 h6.1] at h; cases h⟩
 refine Tt.bind (P := fun b => b = true ↔ Wrt t) (Tt.bif (fun h => Tt.pure ?_) (fun h => Tt.pure ?_)) fun b hb => ?_
 ·have := hb.1 h
  rw [decide_eq_true_iff]
  exact ⟨fun h5 => ⟨this.1.1, this.1.2, this.2, h5⟩, fun h5 => h5.2.2.2⟩
 ·exact ⟨fun h6 => (by cases h6), fun h6 => by rw [hb.2 ⟨⟨h6.1, h6.2.1⟩, h6.2.2.1⟩] at h; cases h⟩
 exact Tt.pure hb
end Go.Proofs.YtknpjecpcmajiaaGreat.Tp

namespace Go.Proofs.YtknpjecpcmajiaaGreat.Tp
open Go Rt M Ta
def wd (a b : Int) : Int := bif a == 2 || b == 2 then 2 else 1
theorem c8r (a b : Int) : wd a b ≠ 0 := by
 unfold wd
 cases a == 2 || b == 2 <;> decide
inductive Typ (names : List Rt.Bs) : M.Expr → Int → Prop
  | num {m : Int} : 0 ≤ m → m ≤ 1099511627776 → Typ names ⟨0, m, [], []⟩ 1
  | lifts {s : Rt.Bs} : Lx.name s = true → s ∈ names → Typ names ⟨1, 0, s, []⟩ 1
  | pers : Typ names ⟨2, 0, [], []⟩ 1
  | flats : Typ names ⟨3, 0, [], []⟩ 1
  | wgt {s : Rt.Bs} : Lx.name s = true → s ∈ names → Typ names ⟨4, 0, s, []⟩ 2
  | ari {o : Int} {a b : M.Expr} {p q : Int} : (o = 5 ∨ o = 6 ∨ o = 9 ∨ o = 10) → Typ names a p → Typ names b q → p ≠ 0 → q ≠ 0 → Typ names ⟨o, 0, [], [a, b]⟩ (wd p q)
  | mul {a b : M.Expr} {p q : Int} : Typ names a p → Typ names b q → p ≠ 0 → q ≠ 0 → ¬(p = 2 ∧ q = 2) → Typ names ⟨7, 0, [], [a, b]⟩ (wd p q)
  | div {a : M.Expr} {m : Int} {p : Int} : Typ names a p → p ≠ 0 → 1 ≤ m → m ≤ 1099511627776 → Typ names ⟨8, 0, [], [a, ⟨0, m, [], []⟩]⟩ p
  | ite {c a b : M.Expr} {p q : Int} : Typ names c 0 → Typ names a p → Typ names b q → p ≠ 0 → q ≠ 0 → Typ names ⟨11, 0, [], [c, a, b]⟩ (wd p q)
  | rel {o : Int} {a b : M.Expr} : (o = 12 ∨ o = 13) → Typ names a 1 → Typ names b 1 → Typ names ⟨o, 0, [], [a, b]⟩ 0
  | not {a : M.Expr} : Typ names a 0 → Typ names ⟨14, 0, [], [a]⟩ 0
  | bin {o : Int} {a b : M.Expr} : (o = 15 ∨ o = 16) → Typ names a 0 → Typ names b 0 → Typ names ⟨o, 0, [], [a, b]⟩ 0
theorem c3t (a b : Int) : wd a b = 1 ∨ wd a b = 2 := by
 unfold wd
 cases a == 2 || b == 2
 ·exact .inl rfl
 ·exact .inr rfl
theorem Typ.range {names : List Rt.Bs} {x : M.Expr} {k : Int} (h : Typ names x k) : k = 0 ∨ k = 1 ∨ k = 2 := by
 induction h with
 | num => exact .inr (.inl rfl)
 | lifts => exact .inr (.inl rfl)
 | pers => exact .inr (.inl rfl)
 | flats => exact .inr (.inl rfl)
 | wgt => exact .inr (.inr rfl)
 | ari => exact .inr (c3t _ _)
 | mul => exact .inr (c3t _ _)
 | div _ _ _ _ ih => exact ih
 | ite => exact .inr (c3t _ _)
 | rel => exact .inl rfl
 | not => exact .inl rfl
 | bin => exact .inl rfl
theorem Typ.args {names : List Rt.Bs} {x : M.Expr} {k : Int} (h : Typ names x k) : ∀ y, y ∈ x.Args → ∃ p, Typ names y p := by
 cases h with
 | num => intro y hy; cases hy
 | lifts => intro y hy; cases hy
 | pers => intro y hy; cases hy
 | flats => intro y hy; cases hy
 | wgt => intro y hy; cases hy
 | ari _ ha hb => intro y hy; simp only [List.mem_cons, List.not_mem_nil, or_false] at hy; rcases hy with rfl | rfl <;> first | exact ⟨_, ha⟩ | exact ⟨_, hb⟩
 | mul ha hb => intro y hy; simp only [List.mem_cons, List.not_mem_nil, or_false] at hy; rcases hy with rfl | rfl <;> first | exact ⟨_, ha⟩ | exact ⟨_, hb⟩
 | div ha _ h1 h2 => intro y hy; simp only [List.mem_cons, List.not_mem_nil, or_false] at hy; rcases hy with rfl | rfl <;> first | exact ⟨_, ha⟩ | exact ⟨_, Typ.num (by omega) h2⟩
 | ite hc ha hb => intro y hy; simp only [List.mem_cons, List.not_mem_nil, or_false] at hy; rcases hy with rfl | rfl | rfl <;> first | exact ⟨_, hc⟩ | exact ⟨_, ha⟩ | exact ⟨_, hb⟩
 | rel _ ha hb => intro y hy; simp only [List.mem_cons, List.not_mem_nil, or_false] at hy; rcases hy with rfl | rfl <;> first | exact ⟨_, ha⟩ | exact ⟨_, hb⟩
 | not ha => intro y hy; simp only [List.mem_cons, List.not_mem_nil, or_false] at hy; rcases hy with rfl; exact ⟨_, ha⟩
 | bin _ ha hb => intro y hy; simp only [List.mem_cons, List.not_mem_nil, or_false] at hy; rcases hy with rfl | rfl <;> first | exact ⟨_, ha⟩ | exact ⟨_, hb⟩
theorem Typ.shx {names : List Rt.Bs} {x : M.Expr} {k : Int} (h : Typ names x k) : Shx x := by
 have nk : ∀ {o : Int}, 5 ≤ o → a9l o 0 [] := fun {o} ho => by unfold a9l; rw [if_neg (by omega), if_neg (by omega)]; exact ⟨rfl, rfl⟩
 have two : ∀ {o : Int} {a b : M.Expr}, (5 ≤ o ∧ o ≤ 16 ∧ o ≠ 11 ∧ o ≠ 14) → Shx a → Shx b → Shx ⟨o, 0, [], [a, b]⟩ := fun {o a b} ho ha hb => by
  refine Shx.mk (by omega) (by omega) ?_ (nk ho.1) ?_
  ·show (2 : Int) = _
   unfold b6u; rw [if_neg (by omega), if_neg (by omega), if_neg (by omega)]
  ·intro y hy; simp only [List.mem_cons, List.not_mem_nil, or_false] at hy; rcases hy with rfl | rfl <;> first | exact ha | exact hb
 have nn : ∀ {m : Int}, 0 ≤ m → m ≤ 1099511627776 → Shx ⟨0, m, [], []⟩ := fun {m} h1 h2 => Shx.mk (by decide) (by decide) rfl (by unfold a9l; rw [if_pos rfl]; exact ⟨⟨h1, h2⟩, rfl⟩) (by intro y hy; cases hy)
 induction h with
 | num h1 h2 => exact nn h1 h2
 | lifts h1 _ => exact Shx.mk (by decide) (by decide) rfl (by unfold a9l; rw [if_neg (by decide), if_pos (by decide)]; exact ⟨rfl, h1⟩) (by intro y hy; cases hy)
 | pers => exact Shx.mk (by decide) (by decide) rfl (by unfold a9l; rw [if_neg (by decide), if_neg (by decide)]; exact ⟨rfl, rfl⟩) (by intro y hy; cases hy)
 | flats => exact Shx.mk (by decide) (by decide) rfl (by unfold a9l; rw [if_neg (by decide), if_neg (by decide)]; exact ⟨rfl, rfl⟩) (by intro y hy; cases hy)
 | wgt h1 _ => exact Shx.mk (by decide) (by decide) rfl (by unfold a9l; rw [if_neg (by decide), if_pos (by decide)]; exact ⟨rfl, h1⟩) (by intro y hy; cases hy)
 | ari ho _ _ _ _ ha hb => exact two (by omega) ha hb
 | mul _ _ _ _ _ ha hb => exact two (by decide) ha hb
 | div _ _ h1 h2 ha => exact two (by decide) ha (nn (by omega) h2)
 | ite _ _ _ _ _ hc ha hb =>
  refine Shx.mk (by decide) (by decide) rfl (nk (by decide)) ?_
  intro y hy; simp only [List.mem_cons, List.not_mem_nil, or_false] at hy; rcases hy with rfl | rfl | rfl <;> first | exact hc | exact ha | exact hb
 | rel ho _ _ ha hb => exact two (by omega) ha hb
 | not _ ha =>
  refine Shx.mk (by decide) (by decide) rfl (nk (by decide)) ?_
  intro y hy; simp only [List.mem_cons, List.not_mem_nil, or_false] at hy; rcases hy with rfl; exact ha
 | bin ho _ _ ha hb => exact two (by omega) ha hb
theorem d6n (n : Nat) (a b : Int) : a2b n a b = some (bif a == 0 || b == 0 then (0, 13) else (wd a b, 0)) := by
 unfold a2b wd
 have orT : ∀ c d : Bool, (bif c then some true else some d) = some (c || d) := fun c d => by cases c <;> rfl
 rw [orT, Option.bind_some, orT, Option.bind_some]
 cases a == 0 || b == 0 <;> cases a == 2 || b == 2 <;> rfl
theorem d6o (k p q w : Int) : Ev (fun n => a3v n k [p, q] w) (bif p == w && q == w then (k, 0) else (0, 13)) := by
 refine ⟨3, fun n hn => ?_⟩
 obtain ⟨n, rfl⟩ : ∃ j, n = j + 3 := ⟨n - 3, by omega⟩
 show ((bif p != w then some (0 : Int) else bif q != w then some 1 else some (-1)).bind fun v1 => some (decide (0 ≤ v1))).bind (fun v1 => bif v1 then some ((0 : Int), (13 : Int)) else some (k, 0)) = _
 cases hp : p == w <;> cases hq : q == w <;> simp [bne, hp, hq]
theorem d6l (k p w : Int) : Ev (fun n => a3v n k [p] w) (bif p == w then (k, 0) else (0, 13)) := by
 refine ⟨3, fun n hn => ?_⟩
 obtain ⟨n, rfl⟩ : ∃ j, n = j + 3 := ⟨n - 3, by omega⟩
 show ((bif p != w then some (0 : Int) else some (-1)).bind fun v1 => some (decide (0 ≤ v1))).bind (fun v1 => bif v1 then some ((0 : Int), (13 : Int)) else some (k, 0)) = _
 cases hp : p == w <;> simp [bne, hp]
def Fnd (names : List Rt.Bs) (x : M.Expr) (r : Int × Int) : Prop := (r.2 = 0 → Typ names x r.1) ∧ (∀ k, Typ names x k → r = (k, 0))
theorem Fnd.uniq {names : List Rt.Bs} {x : M.Expr} {p k : Int} (h : Fnd names x (p, 0)) (hk : Typ names x k) : k = p := by
 have := h.2 k hk
 exact (Prod.mk.inj this).1.symm
inductive F2 (names : List Rt.Bs) : List M.Expr → List Int → Prop
  | nil : F2 names [] []
  | cons {x : M.Expr} {p : Int} {l : List M.Expr} {ps : List Int} : Fnd names x (p, 0) → F2 names l ps → F2 names (x :: l) (p :: ps)
theorem c7p (x : M.Expr) (names : List Rt.Bs) (hx : x.Args.length ≤ 1000000) : ∀ (us : List M.Expr) (i : Nat) (acc : List Int), x.Args.drop i = us → acc.length = i → i ≤ x.Args.length →
  (∀ y, y ∈ us → Tt (Fnd names y) (fun n => tariff_typed n y names)) →
  (∃ (N : Nat) (e : Int), e ≠ 0 ∧ (∃ y, y ∈ us ∧ ∀ k, ¬Typ names y k) ∧ ∀ n m kont, N ≤ n → us.length < m → a2r n (tariff_typed n) x names kont m (i : Int) acc = some (0, e)) ∨
  ∃ (N : Nat) (ps : List Int), F2 names us ps ∧ ∀ n m kont, N ≤ n → us.length < m → a2r n (tariff_typed n) x names kont m (i : Int) acc = kont (acc ++ ps)
 | [], i, acc, hd, ha, hi, _ => by
  refine .inr ⟨0, [], F2.nil, fun n m kont _ hm => ?_⟩
  obtain ⟨m, rfl⟩ := left hm
  rw [a5a, a6f hd, List.append_nil]; rfl
 | y :: us, i, acc, hd, ha, hi, H => by
  obtain ⟨h1, h2, h3⟩ := drop_cons hd
  obtain ⟨⟨k, e⟩, ⟨N1, e1⟩, hq⟩ := H y (by simp)
  by_cases he : e = 0
  ·subst he
   have step : ∀ n m kont, N1 ≤ n → a2r n (tariff_typed n) x names kont (m + 1) (i : Int) acc = a2r n (tariff_typed n) x names kont m ((i + 1 : Nat) : Int) (acc ++ [k]) := by
    intro n m kont hn
    have e1 : tariff_typed n y names = some (k, 0) := e1 n (by omega)
    rw [a5a, a3e hd, cond_true, h1, Option.bind_some, e1, Option.bind_some]
    show ((app 8 acc [k]).bind fun l3 => _) = _
    rw [c7l (by simp only [List.length_cons, List.length_nil]; omega), Option.bind_some, inc64 (by omega)]
   rcases c7p x names hx us (i + 1) (acc ++ [k]) h2 (by simp [ha]) (by omega) (fun z hz => H z (by simp [hz])) with ⟨N, e, he, ⟨z, hz, hzk⟩, ih⟩ | ⟨N, ps, hp, ih⟩
   ·refine .inl ⟨max N N1, e, he, ⟨z, by simp [hz], hzk⟩, fun n m kont hn hm => ?_⟩
    obtain ⟨m, rfl, hm2⟩ := pred (by simpa using hm)
    rw [step n m kont (by omega)]
    exact ih n m kont (by omega) hm2
   ·refine .inr ⟨max N N1, k :: ps, F2.cons hq hp, fun n m kont hn hm => ?_⟩
    obtain ⟨m, rfl, hm2⟩ := pred (by simpa using hm)
    rw [step n m kont (by omega), ih n m kont (by omega) hm2, List.append_assoc]; rfl
  ·refine .inl ⟨N1, e, he, ⟨y, by simp, fun k' hk => he (Prod.mk.inj (hq.2 k' hk)).2⟩, fun n m kont hn hm => ?_⟩
   obtain ⟨m, rfl⟩ := left hm
   have e1 : tariff_typed n y names = some (k, e) := e1 n (by omega)
   have hb : (e != 0) = true := by simpa using he
   rw [a5a, a3e hd, cond_true, h1, Option.bind_some, e1, Option.bind_some]
   dsimp only
   rw [hb]; rfl
def d0y (names : List Rt.Bs) (x : M.Expr) (n : Nat) (l2 : List Int) : Option (Int × Int) :=
   (bif x.Op == 1 then
    some true
   else
    some (x.Op == 4)).bind fun v1 =>
   bif v1 then
    (a1t n names x.Name).bind fun v2 =>
    bif !v2 then
     some (0, 11)
    else
     bif x.Op == 4 then
      some (2, 0)
     else
      some (1, 0)
   else
    (bif x.Op == 0 then
     some true
    else
     bif x.Op == 2 then
      some true
     else
      some (x.Op == 3)).bind fun v3 =>
    bif v3 then
     some (1, 0)
    else
     (bif x.Op == 12 then
      some true
     else
      some (x.Op == 13)).bind fun v4 =>
     bif v4 then
      (a3v n 0 l2 1).bind fun v5 =>
      some (v5.1, v5.2)
     else
      (bif x.Op == 14 then
       some true
      else
       bif x.Op == 15 then
        some true
       else
        some (x.Op == 16)).bind fun v6 =>
      bif v6 then
       (a3v n 0 l2 0).bind fun v7 =>
       some (v7.1, v7.2)
      else
       bif x.Op == 11 then
        (ix l2 0).bind fun ex =>
        bif ex != 0 then
         some (0, 13)
        else
         (ix l2 1).bind fun w2 =>
         (ix l2 2).bind fun w3 =>
         (a2b n w2 w3).bind fun v8 =>
         some (v8.1, v8.2)
       else
        bif x.Op == 7 then
         (ix l2 0).bind fun w4 =>
         (bif w4 == 2 then
          (ix l2 1).bind fun w7 =>
          some (w7 == 2)
         else
          some false).bind fun v9 =>
         bif v9 then
          some (0, 13)
         else
          (ix l2 0).bind fun w5 =>
          (ix l2 1).bind fun w6 =>
          (a2b n w5 w6).bind fun v10 =>
          some (v10.1, v10.2)
        else
         bif x.Op == 8 then
          (ix x.Args 1).bind fun w8 =>
          bif w8.Op != 0 then
           some (0, 13)
          else
           bif w8.N == 0 then
            some (0, 14)
           else
            (ix l2 0).bind fun w9 =>
            (ix l2 1).bind fun w0 =>
            (a2b n w9 w0).bind fun v11 =>
            some (v11.1, v11.2)
         else
          (ix l2 0).bind fun w1 =>
          (ix l2 1).bind fun w2 =>
          (a2b n w1 w2).bind fun v12 =>
          some (v12.1, v12.2)
theorem c1f (n : Nat) (x : M.Expr) (names : List Rt.Bs) : tariff_typed (n + 1) x names = a2r n (tariff_typed n) x names (d0y names x n) n 0 [] := rfl
def b9f (p q : Int) : Int × Int := bif p == 0 || q == 0 then (0, 13) else (wd p q, 0)
theorem b4d (p q : Int) : Ev (fun n => (a2b n p q).bind fun v => some (v.1, v.2)) (b9f p q) := Ev.all fun n => by rw [d6n]; rfl
theorem d1x (p q w : Int) : Ev (fun n => (a3v n 0 [p, q] w).bind fun v5 => some (v5.1, v5.2)) (bif p == w && q == w then (0, 0) else (0, 13)) := Ev.bind (d6o 0 p q w) (Ev.pure _)
theorem d7h (p w : Int) : Ev (fun n => (a3v n 0 [p] w).bind fun v5 => some (v5.1, v5.2)) (bif p == w then (0, 0) else (0, 13)) := Ev.bind (d6l 0 p w) (Ev.pure _)
theorem b4a (p q : Int) : ((p ≠ 0 ∧ q ≠ 0) ∧ b9f p q = (wd p q, 0)) ∨ ((p = 0 ∨ q = 0) ∧ b9f p q = (0, 13)) := by
 unfold b9f
 by_cases hp : p = 0
 ·subst hp; exact .inr ⟨.inl rfl, rfl⟩
 ·by_cases hq : q = 0
  ·subst hq; exact .inr ⟨.inr rfl, by rw [show ((0 : Int) == 0) = true from rfl, Bool.or_true]; rfl⟩
  ·exact .inl ⟨⟨hp, hq⟩, by rw [show (p == 0) = false by simpa using hp, show (q == 0) = false by simpa using hq]; rfl⟩
theorem Fnd.no {names : List Rt.Bs} {x : M.Expr} {p e : Int} (he : e ≠ 0) (h : ∀ k, ¬Typ names x k) : Fnd names x (p, e) := ⟨fun h2 => absurd h2 he, fun k hk => absurd hk (h k)⟩
theorem Fnd.yes {names : List Rt.Bs} {x : M.Expr} {p : Int} (h : Typ names x p) (hu : ∀ k, Typ names x k → k = p) : Fnd names x (p, 0) := ⟨fun _ => h, fun k hk => by rw [hu k hk]⟩
theorem F2.len0 {names : List Rt.Bs} {l : List M.Expr} {ps : List Int} (h : F2 names l ps) (h0 : (l.length : Int) = 0) : l = [] ∧ ps = [] := by
 cases h with
 | nil => exact ⟨rfl, rfl⟩
 | cons => simp at h0; omega
theorem F2.len1 {names : List Rt.Bs} {l : List M.Expr} {ps : List Int} (h : F2 names l ps) (h0 : (l.length : Int) = 1) : ∃ a p, l = [a] ∧ ps = [p] ∧ Fnd names a (p, 0) := by
 cases h with
 | nil => simp at h0
 | cons ha h =>
  obtain ⟨rfl, rfl⟩ := h.len0 (by simp only [List.length_cons] at h0; omega)
  exact ⟨_, _, rfl, rfl, ha⟩
theorem F2.len2 {names : List Rt.Bs} {l : List M.Expr} {ps : List Int} (h : F2 names l ps) (h0 : (l.length : Int) = 2) : ∃ a b p q, l = [a, b] ∧ ps = [p, q] ∧ Fnd names a (p, 0) ∧ Fnd names b (q, 0) := by
 cases h with
 | nil => simp at h0
 | cons ha h =>
  obtain ⟨b, q, rfl, rfl, hb⟩ := h.len1 (by simp only [List.length_cons] at h0; omega)
  exact ⟨_, b, _, q, rfl, rfl, ha, hb⟩
theorem F2.len3 {names : List Rt.Bs} {l : List M.Expr} {ps : List Int} (h : F2 names l ps) (h0 : (l.length : Int) = 3) : ∃ a b c p q r, l = [a, b, c] ∧ ps = [p, q, r] ∧ Fnd names a (p, 0) ∧ Fnd names b (q, 0) ∧ Fnd names c (r, 0) := by
 cases h with
 | nil => simp at h0
 | cons ha h =>
  obtain ⟨b, c, q, r, rfl, rfl, hb, hc⟩ := h.len2 (by simp only [List.length_cons] at h0; omega)
  exact ⟨_, b, c, _, q, r, rfl, rfl, ha, hb, hc⟩
theorem Shx.leaf {m : Int} {s : Rt.Bs} {l : List M.Expr} (h : Shx ⟨0, m, s, l⟩) : (0 ≤ m ∧ m ≤ 1099511627776) ∧ s = [] ∧ l = [] := by
 obtain ⟨_, _, h3, h4, _⟩ := h.inv
 unfold a9l at h4
 rw [if_pos rfl] at h4
 refine ⟨h4.1, h4.2, List.length_eq_zero_iff.1 ?_⟩
 have : (l.length : Int) = 0 := h3
 omega
theorem c3q {names : List Rt.Bs} {o : Int} {a b : M.Expr} {p q : Int} (ho : o = 5 ∨ o = 6 ∨ o = 9 ∨ o = 10) (ha : Fnd names a (p, 0)) (hb : Fnd names b (q, 0)) : Fnd names ⟨o, 0, [], [a, b]⟩ (b9f p q) := by
 have inv : ∀ k, Typ names ⟨o, 0, [], [a, b]⟩ k → (p ≠ 0 ∧ q ≠ 0) ∧ k = wd p q := by
  intro k hk
  cases hk with
  | ari _ h1 h2 h3 h4 => obtain rfl := ha.uniq h1; obtain rfl := hb.uniq h2; exact ⟨⟨h3, h4⟩, rfl⟩
  | mul => omega
  | div => omega
  | rel h => omega
  | bin h => omega
 rcases b4a p q with ⟨h, e⟩ | ⟨h, e⟩
 ·rw [e]; exact Fnd.yes (Typ.ari ho (ha.1 rfl) (hb.1 rfl) h.1 h.2) fun k hk => (inv k hk).2
 ·rw [e]; exact Fnd.no (by decide) fun k hk => by have := (inv k hk).1; omega
theorem d4h {names : List Rt.Bs} {a b : M.Expr} {p q : Int} (ha : Fnd names a (p, 0)) (hb : Fnd names b (q, 0)) : Fnd names ⟨7, 0, [], [a, b]⟩ (bif p == 2 && q == 2 then (0, 13) else b9f p q) := by
 have inv : ∀ k, Typ names ⟨7, 0, [], [a, b]⟩ k → ((p ≠ 0 ∧ q ≠ 0) ∧ ¬(p = 2 ∧ q = 2)) ∧ k = wd p q := by
  intro k hk
  cases hk with
  | ari h => omega
  | mul h1 h2 h3 h4 h5 => obtain rfl := ha.uniq h1; obtain rfl := hb.uniq h2; exact ⟨⟨⟨h3, h4⟩, h5⟩, rfl⟩
  | rel h => omega
  | bin h => omega
 by_cases h2 : p = 2 ∧ q = 2
 ·rw [h2.1, h2.2]; exact Fnd.no (by decide) fun k hk => (inv k hk).1.2 h2
 ·have e2 : (p == 2 && q == 2) = false := by
   cases h : p == 2 && q == 2
   ·rfl
   ·rw [Bool.and_eq_true] at h; exact absurd ⟨by simpa using h.1, by simpa using h.2⟩ h2
  rw [e2]
  show Fnd names _ (b9f p q)
  rcases b4a p q with ⟨h, e⟩ | ⟨h, e⟩
  ·rw [e]; exact Fnd.yes (Typ.mul (ha.1 rfl) (hb.1 rfl) h.1 h.2 h2) fun k hk => (inv k hk).2
  ·rw [e]; exact Fnd.no (by decide) fun k hk => by have := (inv k hk).1.1; omega
theorem d6x {names : List Rt.Bs} {a : M.Expr} {p : Int} (h : Typ names a p) (h0 : p ≠ 0) : wd p 1 = p := by
 rcases h.range with rfl | rfl | rfl
 ·exact absurd rfl h0
 ·rfl
 ·rfl
theorem d5g {names : List Rt.Bs} {a b : M.Expr} {p q : Int} (ha : Fnd names a (p, 0)) (hb : Fnd names b (q, 0)) (hs : Shx b) : Fnd names ⟨8, 0, [], [a, b]⟩ (bif b.Op != 0 then (0, 13) else bif b.N == 0 then (0, 14) else b9f p q) := by
 have inv : ∀ k, Typ names ⟨8, 0, [], [a, b]⟩ k → ∃ m, b = ⟨0, m, [], []⟩ ∧ m ≠ 0 ∧ p ≠ 0 ∧ k = p := by
  intro k hk
  cases hk with
  | ari h => omega
  | div h1 h2 h3 h4 => obtain rfl := ha.uniq h1; exact ⟨_, rfl, by omega, h2, rfl⟩
  | rel h => omega
  | bin h => omega
 obtain ⟨o, m, s, l⟩ := b
 dsimp only
 by_cases h0 : o = 0
 ·subst h0
  obtain ⟨h1, rfl, rfl⟩ := hs.leaf
  have hq : q = 1 := (hb.uniq (Typ.num h1.1 h1.2)).symm
  subst hq
  show Fnd names _ (bif m == 0 then (0, 14) else b9f p 1)
  by_cases hm : m = 0
  ·subst hm
   exact Fnd.no (by decide) fun k hk => by
    obtain ⟨m2, h5, h6, _⟩ := inv k hk
    injection h5 with _ h7
    exact h6 h7.symm
  ·rw [show (m == 0) = false by simpa using hm]
   show Fnd names _ (b9f p 1)
   rcases b4a p 1 with ⟨h, e⟩ | ⟨h, e⟩
   ·rw [e, d6x (ha.1 rfl) h.1]; exact Fnd.yes (Typ.div (ha.1 rfl) h.1 (by omega) h1.2) fun k hk => by obtain ⟨_, _, _, _, h⟩ := inv k hk; exact h
   ·rw [e]; exact Fnd.no (by decide) fun k hk => by obtain ⟨_, _, _, h5, _⟩ := inv k hk; omega
 ·rw [show (o != 0) = true by simpa using h0]
  exact Fnd.no (by decide) fun k hk => by
   obtain ⟨m2, h5, _⟩ := inv k hk
   injection h5 with h7
   exact h0 h7
theorem d4f {names : List Rt.Bs} {c a b : M.Expr} {r p q : Int} (hc : Fnd names c (r, 0)) (ha : Fnd names a (p, 0)) (hb : Fnd names b (q, 0)) : Fnd names ⟨11, 0, [], [c, a, b]⟩ (bif r != 0 then (0, 13) else b9f p q) := by
 have inv : ∀ k, Typ names ⟨11, 0, [], [c, a, b]⟩ k → (r = 0 ∧ p ≠ 0 ∧ q ≠ 0) ∧ k = wd p q := by
  intro k hk
  cases hk with
  | ite h0 h1 h2 h3 h4 => obtain rfl := hc.uniq h0; obtain rfl := ha.uniq h1; obtain rfl := hb.uniq h2; exact ⟨⟨rfl, h3, h4⟩, rfl⟩
 by_cases hr : r = 0
 ·subst hr
  show Fnd names _ (b9f p q)
  rcases b4a p q with ⟨h, e⟩ | ⟨h, e⟩
  ·rw [e]; exact Fnd.yes (Typ.ite (hc.1 rfl) (ha.1 rfl) (hb.1 rfl) h.1 h.2) fun k hk => (inv k hk).2
  ·rw [e]; exact Fnd.no (by decide) fun k hk => by have := (inv k hk).1; omega
 ·rw [show (r != 0) = true by simpa using hr]
  exact Fnd.no (by decide) fun k hk => hr (inv k hk).1.1
theorem d0b {names : List Rt.Bs} {o : Int} {a b : M.Expr} {p q : Int} (ho : o = 12 ∨ o = 13) (ha : Fnd names a (p, 0)) (hb : Fnd names b (q, 0)) : Fnd names ⟨o, 0, [], [a, b]⟩ (bif p == 1 && q == 1 then (0, 0) else (0, 13)) := by
 have inv : ∀ k, Typ names ⟨o, 0, [], [a, b]⟩ k → (p = 1 ∧ q = 1) ∧ k = 0 := by
  intro k hk
  cases hk with
  | ari h => omega
  | mul => omega
  | div => omega
  | rel _ h1 h2 => exact ⟨⟨(ha.uniq h1).symm, (hb.uniq h2).symm⟩, rfl⟩
  | bin h => omega
 by_cases h2 : p = 1 ∧ q = 1
 ·obtain ⟨rfl, rfl⟩ := h2; exact Fnd.yes (Typ.rel ho (ha.1 rfl) (hb.1 rfl)) fun k hk => (inv k hk).2
 ·have e2 : (p == 1 && q == 1) = false := by
   cases h : p == 1 && q == 1
   ·rfl
   ·rw [Bool.and_eq_true] at h; exact absurd ⟨by simpa using h.1, by simpa using h.2⟩ h2
  rw [e2]; exact Fnd.no (by decide) fun k hk => h2 (inv k hk).1
theorem c9c {names : List Rt.Bs} {o : Int} {a b : M.Expr} {p q : Int} (ho : o = 15 ∨ o = 16) (ha : Fnd names a (p, 0)) (hb : Fnd names b (q, 0)) : Fnd names ⟨o, 0, [], [a, b]⟩ (bif p == 0 && q == 0 then (0, 0) else (0, 13)) := by
 have inv : ∀ k, Typ names ⟨o, 0, [], [a, b]⟩ k → (p = 0 ∧ q = 0) ∧ k = 0 := by
  intro k hk
  cases hk with
  | ari h => omega
  | mul => omega
  | div => omega
  | rel h => omega
  | bin _ h1 h2 => exact ⟨⟨(ha.uniq h1).symm, (hb.uniq h2).symm⟩, rfl⟩
 by_cases h2 : p = 0 ∧ q = 0
 ·obtain ⟨rfl, rfl⟩ := h2; exact Fnd.yes (Typ.bin ho (ha.1 rfl) (hb.1 rfl)) fun k hk => (inv k hk).2
 ·have e2 : (p == 0 && q == 0) = false := by
   cases h : p == 0 && q == 0
   ·rfl
   ·rw [Bool.and_eq_true] at h; exact absurd ⟨by simpa using h.1, by simpa using h.2⟩ h2
  rw [e2]; exact Fnd.no (by decide) fun k hk => h2 (inv k hk).1
theorem d3r {names : List Rt.Bs} {a : M.Expr} {p : Int} (ha : Fnd names a (p, 0)) : Fnd names ⟨14, 0, [], [a]⟩ (bif p == 0 then (0, 0) else (0, 13)) := by
 have inv : ∀ k, Typ names ⟨14, 0, [], [a]⟩ k → p = 0 ∧ k = 0 := by
  intro k hk
  cases hk with
  | not h1 => exact ⟨(ha.uniq h1).symm, rfl⟩
 by_cases h2 : p = 0
 ·subst h2; exact Fnd.yes (Typ.not (ha.1 rfl)) fun k hk => (inv k hk).2
 ·rw [show (p == 0) = false by simpa using h2]; exact Fnd.no (by decide) fun k hk => h2 (inv k hk).1
theorem a6k {o n : Int} {s : Rt.Bs} (h : a9l o n s) (h5 : o ≠ 0 ∧ o ≠ 1 ∧ o ≠ 4) : n = 0 ∧ s = [] := by
 unfold a9l at h
 rw [if_neg h5.1, if_neg (by omega)] at h
 exact h
theorem d0r {x : M.Expr} (hx : Fit x) (names : List Rt.Bs) (hn : names.length < 4611686018427387904) : Shx x → Tt (Fnd names x) (fun n => tariff_typed n x names) := by
 induction hx with
 | @mk o k s l hl _ ih =>
  intro hs
  obtain ⟨h1, h2, h3, hno, h4⟩ := hs.inv
  rcases c7p ⟨o, k, s, l⟩ names hl l 0 [] rfl rfl (by simp) (fun y hy => ih y hy (h4 y hy)) with ⟨N, e, he, ⟨y, hy, hyk⟩, hL⟩ | ⟨N, ps, hp, hL⟩
  ·refine ⟨(0, e), Ev.suc (fun n => c1f n _ _) ⟨N + l.length + 1, fun n hn => hL n n _ (by omega) (by omega)⟩, Fnd.no he fun k' hk => ?_⟩
   obtain ⟨p, hp⟩ := hk.args y hy
   exact hyk p hp
  have out : ∀ r : Int × Int, Fnd names ⟨o, k, s, l⟩ r → Ev (fun n => d0y names ⟨o, k, s, l⟩ n ps) r → Tt (Fnd names ⟨o, k, s, l⟩) (fun n => tariff_typed n ⟨o, k, s, l⟩ names) := by
   intro r hty hf
   exact ⟨r, Ev.suc (fun n => c1f n _ _) (Ev.from (N + l.length + 1) (fun n hn => hL n n _ (by omega) (by omega)) hf), hty⟩
  clear hL ih
  have hc : o = 0 ∨ o = 1 ∨ o = 2 ∨ o = 3 ∨ o = 4 ∨ o = 5 ∨ o = 6 ∨ o = 7 ∨ o = 8 ∨ o = 9 ∨ o = 10 ∨ o = 11 ∨ o = 12 ∨ o = 13 ∨ o = 14 ∨ o = 15 ∨ o = 16 := by omega
  rcases hc with rfl | rfl | rfl | rfl | rfl | rfl | rfl | rfl | rfl | rfl | rfl | rfl | rfl | rfl | rfl | rfl | rfl
  ·obtain ⟨h5, rfl, rfl⟩ := hs.leaf
   obtain ⟨_, rfl⟩ := hp.len0 rfl
   exact out (1, 0) (Fnd.yes (Typ.num h5.1 h5.2) fun k hk => by cases hk; rfl) (Ev.all fun n => rfl)
  ·obtain ⟨rfl, rfl⟩ := hp.len0 h3
   unfold a9l at hno
   rw [if_neg (by decide), if_pos (by decide)] at hno
   obtain ⟨rfl, hname⟩ := hno
   refine out (bif !decide (s ∈ names) then (0, 11) else (1, 0)) ?_ ?_
   ·by_cases hm : s ∈ names
    ·rw [decide_eq_true hm]; exact Fnd.yes (Typ.lifts hname hm) fun k hk => by cases hk; rfl
    ·rw [decide_eq_false hm]; exact Fnd.no (by decide) fun k hk => by cases hk; contradiction
   ·exact Ev.bind (f := fun n v2 => bif !v2 then some (0, 11) else some (1, 0)) (b2n s hn) (by cases decide (s ∈ names) <;> exact Ev.pure _)
  ·obtain ⟨rfl, rfl⟩ := hp.len0 h3
   obtain ⟨rfl, rfl⟩ := a6k hno (by decide)
   exact out (1, 0) (Fnd.yes Typ.pers fun k hk => by cases hk; rfl) (Ev.all fun n => rfl)
  ·obtain ⟨rfl, rfl⟩ := hp.len0 h3
   obtain ⟨rfl, rfl⟩ := a6k hno (by decide)
   exact out (1, 0) (Fnd.yes Typ.flats fun k hk => by cases hk; rfl) (Ev.all fun n => rfl)
  ·obtain ⟨rfl, rfl⟩ := hp.len0 h3
   unfold a9l at hno
   rw [if_neg (by decide), if_pos (by decide)] at hno
   obtain ⟨rfl, hname⟩ := hno
   refine out (bif !decide (s ∈ names) then (0, 11) else (2, 0)) ?_ ?_
   ·by_cases hm : s ∈ names
    ·rw [decide_eq_true hm]; exact Fnd.yes (Typ.wgt hname hm) fun k hk => by cases hk; rfl
    ·rw [decide_eq_false hm]; exact Fnd.no (by decide) fun k hk => by cases hk; contradiction
   ·exact Ev.bind (f := fun n v2 => bif !v2 then some (0, 11) else some (2, 0)) (b2n s hn) (by cases decide (s ∈ names) <;> exact Ev.pure _)
  ·obtain ⟨a, b, p, q, rfl, rfl, ha, hb⟩ := hp.len2 h3
   obtain ⟨rfl, rfl⟩ := a6k hno (by decide)
   exact out _ (c3q (by decide) ha hb) (b4d p q)
  ·obtain ⟨a, b, p, q, rfl, rfl, ha, hb⟩ := hp.len2 h3
   obtain ⟨rfl, rfl⟩ := a6k hno (by decide)
   exact out _ (c3q (by decide) ha hb) (b4d p q)
  ·obtain ⟨a, b, p, q, rfl, rfl, ha, hb⟩ := hp.len2 h3
   obtain ⟨rfl, rfl⟩ := a6k hno (by decide)
   refine out _ (d4h ha hb) ?_
   show Ev (fun n => (bif p == 2 then some (q == 2) else some false).bind fun v9 => bif v9 then some (0, 13) else (a2b n p q).bind fun v => some (v.1, v.2)) _
   refine Ev.bind (a := p == 2 && q == 2) (Ev.all fun n => by cases p == 2 <;> rfl) ?_
   cases p == 2 && q == 2
   ·exact Ev.else rfl (b4d p q)
   ·exact Ev.then rfl (Ev.pure _)
  ·obtain ⟨a, b, p, q, rfl, rfl, ha, hb⟩ := hp.len2 h3
   obtain ⟨rfl, rfl⟩ := a6k hno (by decide)
   refine out _ (d5g ha hb (h4 b (by simp))) ?_
   show Ev (fun n => bif b.Op != 0 then some (0, 13) else bif b.N == 0 then some (0, 14) else (a2b n p q).bind fun v => some (v.1, v.2)) _
   cases b.Op != 0
   ·cases b.N == 0
    ·exact Ev.else rfl (Ev.else rfl (b4d p q))
    ·exact Ev.else rfl (Ev.then rfl (Ev.pure _))
   ·exact Ev.then rfl (Ev.pure _)
  ·obtain ⟨a, b, p, q, rfl, rfl, ha, hb⟩ := hp.len2 h3
   obtain ⟨rfl, rfl⟩ := a6k hno (by decide)
   exact out _ (c3q (by decide) ha hb) (b4d p q)
  ·obtain ⟨a, b, p, q, rfl, rfl, ha, hb⟩ := hp.len2 h3
   obtain ⟨rfl, rfl⟩ := a6k hno (by decide)
   exact out _ (c3q (by decide) ha hb) (b4d p q)
  ·obtain ⟨c, a, b, r, p, q, rfl, rfl, hcc, ha, hb⟩ := hp.len3 h3
   obtain ⟨rfl, rfl⟩ := a6k hno (by decide)
   refine out _ (d4f hcc ha hb) ?_
   show Ev (fun n => bif r != 0 then some (0, 13) else (a2b n p q).bind fun v => some (v.1, v.2)) _
   cases r != 0
   ·exact Ev.else rfl (b4d p q)
   ·exact Ev.then rfl (Ev.pure _)
  ·obtain ⟨a, b, p, q, rfl, rfl, ha, hb⟩ := hp.len2 h3
   obtain ⟨rfl, rfl⟩ := a6k hno (by decide)
   exact out _ (d0b (by decide) ha hb) (d1x p q 1)
  ·obtain ⟨a, b, p, q, rfl, rfl, ha, hb⟩ := hp.len2 h3
   obtain ⟨rfl, rfl⟩ := a6k hno (by decide)
   exact out _ (d0b (by decide) ha hb) (d1x p q 1)
  ·obtain ⟨a, p, rfl, rfl, ha⟩ := hp.len1 h3
   obtain ⟨rfl, rfl⟩ := a6k hno (by decide)
   exact out _ (d3r ha) (d7h p 0)
  ·obtain ⟨a, b, p, q, rfl, rfl, ha, hb⟩ := hp.len2 h3
   obtain ⟨rfl, rfl⟩ := a6k hno (by decide)
   exact out _ (c9c (by decide) ha hb) (d1x p q 0)
  ·obtain ⟨a, b, p, q, rfl, rfl, ha, hb⟩ := hp.len2 h3
   obtain ⟨rfl, rfl⟩ := a6k hno (by decide)
   exact out _ (c9c (by decide) ha hb) (d1x p q 0)
theorem Typ.uniq {names : List Rt.Bs} (hn : names.length < 4611686018427387904) {x : M.Expr} (hx : Fit x) {j k : Int} (h : Typ names x j) (h2 : Typ names x k) : j = k := by
 obtain ⟨r, _, hr⟩ := d0r hx names hn h.shx
 have e := (hr.2 j h).symm.trans (hr.2 k h2)
 exact (Prod.mk.inj e).1
def Chk (names : List Rt.Bs) (t : Tariff) : Prop := d0i names = true ∧ Wrt t ∧ ∃ k, k ≠ 0 ∧ Typ names t.Fee k
theorem d5i {t : Tariff} (hx : Fit t.Fee) (names : List Rt.Bs) (hn : names.length < 4611686018427387904) : Tt (fun e => e = 0 ↔ Chk names t) (fun n => a9t n t names) := by
 unfold a9t
 refine Tt.evb (b9i hn) (Tt.bif (fun h => Tt.pure ⟨fun h => (by cases h), fun h5 => ?_⟩) (fun h => ?_))
 ·rw [h5.1] at h; cases h
 have hnm : d0i names = true := by simpa using h
 refine Tt.bind (c8k hx) fun b hb => ?_
 refine Tt.bif (fun h => Tt.pure ⟨fun h => (by cases h), fun h5 => ?_⟩) (fun h => ?_)
 ·rw [hb.2 h5.2.1] at h; cases h
 have hw : Wrt t := hb.1 (by simpa using h)
 refine Tt.bind (d0r hx names hn hw.2.1.2) fun r hr => ?_
 refine Tt.bind (P := fun b => b = true ↔ r.2 = 0 ∧ r.1 = 0) (Tt.bif (fun h => Tt.pure ?_) (fun h => Tt.pure ?_)) fun b hb => ?_
 ·have : r.2 = 0 := by simpa using h
  simp [this]
 ·have : r.2 ≠ 0 := by simpa using h
  simp [this]
 refine Tt.bif (fun h => Tt.pure ⟨fun h => (by cases h), fun h5 => ?_⟩) (fun h => Tt.pure ⟨fun h5 => ?_, fun h5 => ?_⟩)
 ·obtain ⟨_, _, k, hk, ht⟩ := h5
  have := hr.2 k ht
  have h7 := (hb.1 h).2
  rw [this] at h7
  exact absurd h7 hk
 ·refine ⟨hnm, hw, r.1, fun h6 => ?_, hr.1 h5⟩
  rw [hb.2 ⟨h5, h6⟩] at h; cases h
 ·obtain ⟨_, _, k, hk, ht⟩ := h5
  rw [hr.2 k ht]
end Go.Proofs.YtknpjecpcmajiaaGreat.Tp

namespace Go.Proofs.YtknpjecpcmajiaaGreat.D
def val : List Int → Int
  | [] => 0
  | d :: l => d + 1048576 * val l
def valc : List Int → Int → Int
  | [], c => c
  | d :: l, c => d + 1048576 * valc l c
def pw : Nat → Int
  | 0 => 1
  | k + 1 => 1048576 * pw k
def InR (l : List Int) : Prop := ∀ d ∈ l, 0 ≤ d ∧ d < 1048576
theorem InR.nil : InR [] := by intro d hd; simp at hd
theorem InR.cons {d : Int} {l : List Int} (h0 : 0 ≤ d) (h1 : d < 1048576) (h : InR l) : InR (d :: l) := by
 intro e he
 rcases List.mem_cons.1 he with rfl | he
 ·exact ⟨h0, h1⟩
 ·exact h e he
theorem InR.head {d : Int} {l : List Int} (h : InR (d :: l)) : 0 ≤ d ∧ d < 1048576 := h d (by simp)
theorem InR.tail {d : Int} {l : List Int} (h : InR (d :: l)) : InR l := fun e he => h e (by simp [he])
theorem InR.append {a b : List Int} (h : InR a) (k : InR b) : InR (a ++ b) := by
 intro e he
 rcases List.mem_append.1 he with he | he
 ·exact h e he
 ·exact k e he
theorem InR.left {a b : List Int} (h : InR (a ++ b)) : InR a := fun e he => h e (by simp [he])
theorem InR.right {a b : List Int} (h : InR (a ++ b)) : InR b := fun e he => h e (by simp [he])
theorem InR.rep (k : Nat) : InR (List.replicate k 0) := by
 intro e he
 rw [(List.mem_replicate.1 he).2]; decide
theorem InR.headD {l : List Int} (h : InR l) : 0 ≤ l.headD 0 ∧ l.headD 0 < 1048576 := by
 cases l with
 | nil => simp
 | cons d l => simpa using h.head
theorem InR.tail' {l : List Int} (h : InR l) : InR l.tail := by
 cases l with
 | nil => exact h
 | cons d l => exact h.tail
theorem pw_pos : ∀ k, 0 < pw k
 | 0 => by decide
 | k + 1 => by have := pw_pos k; simp only [pw]; omega
theorem valc_eq : ∀ (l : List Int) (c : Int), valc l c = val l + pw l.length * c
 | [], c => by simp [valc, val, pw]
 | d :: l, c => by simp only [valc, val, pw, List.length_cons, valc_eq l c]; grind
theorem val_append : ∀ (a b : List Int), val (a ++ b) = val a + pw a.length * val b
 | [], b => by simp [val, pw]
 | d :: a, b => by simp only [List.cons_append, val, pw, List.length_cons, val_append a b]; grind
theorem b6q (a b : List Int) : valc a (val b) = val (a ++ b) := by rw [valc_eq, val_append]
theorem val_nonneg : ∀ {l : List Int}, InR l → 0 ≤ val l
 | [], _ => by simp [val]
 | d :: l, h => by have := val_nonneg h.tail; have := h.head; simp only [val]; omega
theorem val_lt : ∀ {l : List Int}, InR l → val l < pw l.length
 | [], _ => by simp [val, pw]
 | d :: l, h => by have := val_lt h.tail; have := h.head; simp only [val, pw, List.length_cons]; omega
theorem val_rep : ∀ k, val (List.replicate k 0) = 0
 | 0 => rfl
 | k + 1 => by rw [List.replicate_succ]; simp only [val, val_rep k]; rfl
def dig (v : Nat) : List Int := if v = 0 then [] else ((v % 1048576 : Nat) : Int) :: dig (v / 1048576)
  termination_by v
  decreasing_by omega
theorem dig_zero : dig 0 = [] := by rw [dig]; simp
theorem b3q {v : Nat} (h : v ≠ 0) : dig v = ((v % 1048576 : Nat) : Int) :: dig (v / 1048576) := by rw [dig]; simp [h]
theorem a2u (v : Nat) : val (dig v) = v := by
 induction v using Nat.strongRecOn with
 | ind v ih =>
  by_cases h : v = 0
  ·subst h; rw [dig_zero]; rfl
  ·rw [b3q h]; simp only [val]; rw [ih (v / 1048576) (by omega)]; omega
theorem a3l (v : Nat) : InR (dig v) := by
 induction v using Nat.strongRecOn with
 | ind v ih =>
  by_cases h : v = 0
  ·subst h; rw [dig_zero]; exact InR.nil
  ·rw [b3q h]; exact InR.cons (by omega) (by omega) (ih _ (by omega))
theorem b6c {v : Nat} (h : v ≠ 0) : dig v ≠ [] := by rw [b3q h]; simp
theorem b7m (v : Nat) : (dig v).getLast? ≠ some 0 := by
 induction v using Nat.strongRecOn with
 | ind v ih =>
  by_cases h : v = 0
  ·subst h; rw [dig_zero]; simp
  ·rw [b3q h]
   by_cases h2 : v / 1048576 = 0
   ·rw [h2, dig_zero]; simp; omega
   ·have := ih _ (show v / 1048576 < v by omega)
    rw [List.getLast?_cons]
    have h3 := b6c h2
    cases hg : (dig (v / 1048576)).getLast? with
    | none => rw [List.getLast?_eq_none_iff] at hg; exact absurd hg h3
    | some z => simp [hg] at this ⊢; exact this
def Canon (l : List Int) : Prop := InR l ∧ l.getLast? ≠ some 0
theorem Canon.tail {d : Int} {l : List Int} (h : Canon (d :: l)) : Canon l := by
 refine ⟨h.1.tail, ?_⟩
 cases l with
 | nil => simp
 | cons e l => have := h.2; rw [List.getLast?_cons_cons] at this; exact this
theorem b1h (v : Nat) : Canon (dig v) := ⟨a3l v, b7m v⟩
theorem dig_val : ∀ {l : List Int}, Canon l → dig (val l).toNat = l
 | [], _ => by simp [val, dig_zero]
 | d :: l, h => by
  have ih := dig_val h.tail
  have h0 := h.1.head
  have h1 := val_nonneg h.1.tail
  simp only [val]
  have hne : (d + 1048576 * val l).toNat ≠ 0 := by
   intro e
   have e1 : val l = 0 := by omega
   have e2 : d = 0 := by omega
   rw [e1] at ih
   simp only [Int.toNat_zero, dig_zero] at ih
   subst ih e2
   exact h.2 rfl
  rw [b3q hne]
  have e1 : (((d + 1048576 * val l).toNat % 1048576 : Nat) : Int) = d := by omega
  have e2 : (d + 1048576 * val l).toNat / 1048576 = (val l).toNat := by omega
  rw [e1, e2, ih]
theorem d4t {u v : Nat} (h : dig u = dig v) : u = v := by
 have h1 := a2u u
 rw [h, a2u] at h1; omega
theorem split_dig : ∀ {l : List Int}, InR l → ∃ r, l = dig (val l).toNat ++ List.replicate r 0
  | [], _ => ⟨0, by simp [val, dig_zero]⟩
  | d :: l, h => by
    obtain ⟨r, hr⟩ := split_dig h.tail
    have h0 := h.head
    have h1 := val_nonneg h.tail
    simp only [val]
    by_cases hz : (d + 1048576 * val l).toNat = 0
    · have e1 : val l = 0 := by omega
      have e2 : d = 0 := by omega
      rw [e1] at hr
      simp only [Int.toNat_zero, dig_zero, List.nil_append] at hr
      refine ⟨r + 1, ?_⟩
      rw [hz, dig_zero, e2, hr, List.replicate_succ]; simp
    · refine ⟨r, ?_⟩
      rw [b3q hz]
      have e1 : (((d + 1048576 * val l).toNat % 1048576 : Nat) : Int) = d := by omega
      have e2 : (d + 1048576 * val l).toNat / 1048576 = (val l).toNat := by omega
      rw [e1, e2]
      conv => lhs; rw [hr]
      simp
theorem b7x {l : List Int} (h : InR l) : (dig (val l).toNat).length ≤ l.length := by
  obtain ⟨r, hr⟩ := split_dig h
  conv => rhs; rw [hr]
  simp
theorem val_lt_of_len : ∀ {a b : List Int}, InR a → Canon b → a.length < b.length → val a < val b
 | [], [], _, _, h => by simp at h
 | [], d :: l, _, hb, _ => by
  have h1 := val_nonneg hb.1
  have h2 : val (d :: l) ≠ 0 := by
   intro e
   have := dig_val hb
   rw [e] at this
   simp [dig_zero] at this
  simp only [val] at *; omega
 | x :: xs, [], _, _, h => by simp at h
 | x :: xs, y :: ys, ha, hb, h => by
  have := val_lt_of_len ha.tail hb.tail (by simpa using h)
  have := ha.head
  have := hb.1.head
  simp only [val]; omega
theorem a5r {u v : Nat} (h : u ≤ v) : (dig u).length ≤ (dig v).length := by
 rcases Nat.lt_or_ge (dig v).length (dig u).length with h1 | h1
 ·have := val_lt_of_len (a3l v) (b1h u) h1
  rw [a2u, a2u] at this; omega
 ·exact h1
def addD : Int → List Int → List Int → List Int × Int
  | c, [], _ => ([], c)
  | c, x :: xs, ys => ((c + x + ys.headD 0) % 1048576 :: (addD ((c + x + ys.headD 0) / 1048576) xs ys.tail).1, (addD ((c + x + ys.headD 0) / 1048576) xs ys.tail).2)
theorem addD_val : ∀ (xs ys : List Int) (c : Int), ys.length ≤ xs.length → valc (addD c xs ys).1 (addD c xs ys).2 = c + val xs + val ys
 | [], ys, c, h => by
  have : ys = [] := List.eq_nil_of_length_eq_zero (by simpa using h)
  subst this; simp [addD, valc, val]
 | x :: xs, ys, c, h => by
  have ih := addD_val xs ys.tail ((c + x + ys.headD 0) / 1048576) (by simp at h ⊢; omega)
  simp only [addD, valc, ih, val]
  cases ys with
  | nil => simp [val]; omega
  | cons y ys => simp [val]; omega
theorem addD_len : ∀ (xs ys : List Int) (c : Int), (addD c xs ys).1.length = xs.length
 | [], _, _ => rfl
 | x :: xs, ys, c => by simp [addD, addD_len xs]
theorem addD_in : ∀ (xs ys : List Int) (c : Int), InR (addD c xs ys).1
 | [], _, _ => InR.nil
 | x :: xs, ys, c => InR.cons (by omega) (by omega) (addD_in xs _ _)
theorem addD_carry : ∀ (xs ys : List Int) (c : Int), InR xs → InR ys → 0 ≤ c → c ≤ 1 → 0 ≤ (addD c xs ys).2 ∧ (addD c xs ys).2 ≤ 1
 | [], _, c, _, _, h0, h1 => ⟨h0, h1⟩
 | x :: xs, ys, c, hx, hy, h0, h1 => by
  have := hx.head
  have := hy.headD
  exact addD_carry xs ys.tail _ hx.tail hy.tail' (by omega) (by omega)
def setD (g : Int) : Int → List Int → List Int → List Int × Int
  | b, [], _ => ([], b)
  | b, u :: us, vs => ((u - b - g * vs.headD 0) % 1048576 :: (setD g (-((u - b - g * vs.headD 0) / 1048576)) us vs.tail).1, (setD g (-((u - b - g * vs.headD 0) / 1048576)) us vs.tail).2)
theorem c3d (g : Int) : ∀ (us vs : List Int) (b : Int), vs.length ≤ us.length → valc (setD g b us vs).1 (-(setD g b us vs).2) = val us - b - g * val vs
 | [], vs, b, h => by
  have : vs = [] := List.eq_nil_of_length_eq_zero (by simpa using h)
  subst this; simp [setD, valc, val]
 | u :: us, vs, b, h => by
  have ih := c3d g us vs.tail (-((u - b - g * vs.headD 0) / 1048576)) (by simp at h ⊢; omega)
  simp only [setD, valc, ih, val]
  cases vs with
  | nil => simp [val]; omega
  | cons v vs =>
   simp only [List.headD_cons, List.tail_cons, val]
   rw [show g * (v + 1048576 * val vs) = g * v + 1048576 * (g * val vs) by grind]
   generalize g * v = p
   generalize g * val vs = q
   omega
theorem b5u (g : Int) : ∀ (us vs : List Int) (b : Int), (setD g b us vs).1.length = us.length
 | [], _, _ => rfl
 | x :: xs, ys, c => by simp [setD, b5u g xs]
theorem b4o (g : Int) : ∀ (us vs : List Int) (b : Int), InR (setD g b us vs).1
 | [], _, _ => InR.nil
 | x :: xs, ys, c => InR.cons (by omega) (by omega) (b4o g xs _ _)
theorem b6i {g v : Int} (hg : 0 ≤ g) (h0 : 0 ≤ v) (h1 : v < 1048576) : 0 ≤ g * v ∧ g * v ≤ g * 1048576 - g := by
 have h2 := Int.mul_nonneg hg h0
 have h3 := Int.mul_le_mul_of_nonneg_left (show v ≤ 1048575 by omega) hg
 omega
theorem b6g {g : Int} (hg : 0 ≤ g) : ∀ (us vs : List Int) (b : Int), InR us → InR vs → 0 ≤ b → b ≤ g → 0 ≤ (setD g b us vs).2 ∧ (setD g b us vs).2 ≤ g
 | [], _, b, _, _, h0, h1 => ⟨h0, h1⟩
 | u :: us, vs, b, hu, hv, h0, h1 => by
  have := hu.head
  have := hv.headD
  have := b6i (g := g) hg this.1 this.2
  exact b6g hg us vs.tail _ hu.tail hv.tail' (by omega) (by omega)
def mulD (x : Int) : Int → List Int → List Int → List Int × Int
  | c, [], _ => ([], c)
  | c, y :: ys, ws => ((ws.headD 0 + x * y + c) % 1048576 :: (mulD x ((ws.headD 0 + x * y + c) / 1048576) ys ws.tail).1, (mulD x ((ws.headD 0 + x * y + c) / 1048576) ys ws.tail).2)
theorem c6v (x : Int) : ∀ (ys ws : List Int) (c : Int), ws.length = ys.length → valc (mulD x c ys ws).1 (mulD x c ys ws).2 = val ws + x * val ys + c
 | [], ws, c, h => by
  have : ws = [] := List.eq_nil_of_length_eq_zero (by simpa using h)
  subst this; simp [mulD, valc, val]
 | y :: ys, [], c, h => by simp at h
 | y :: ys, w :: ws, c, h => by
  have ih := c6v x ys ws ((w + x * y + c) / 1048576) (by simpa using h)
  simp only [mulD, List.headD_cons, List.tail_cons, valc, ih, val]
  rw [show x * (y + 1048576 * val ys) = x * y + 1048576 * (x * val ys) by grind]
  generalize x * y = p
  generalize x * val ys = q
  omega
theorem b9k (x : Int) : ∀ (ys ws : List Int) (c : Int), (mulD x c ys ws).1.length = ys.length
 | [], _, _ => rfl
 | y :: ys, ws, c => by simp [mulD, b9k x ys]
theorem c6i (x : Int) : ∀ (ys ws : List Int) (c : Int), InR (mulD x c ys ws).1
 | [], _, _ => InR.nil
 | y :: ys, ws, c => InR.cons (by omega) (by omega) (c6i x ys _ _)
theorem b9v {x y : Int} (h0 : 0 ≤ x) (h1 : x < 1048576) (h2 : 0 ≤ y) (h3 : y < 1048576) : 0 ≤ x * y ∧ x * y ≤ 1099509530625 := by
 have h4 := b6i h0 h2 h3
 omega
theorem b8b {x : Int} (h0 : 0 ≤ x) (h1 : x < 1048576) : ∀ (ys ws : List Int) (c : Int), InR ys → InR ws → 0 ≤ c → c < 1048576 → 0 ≤ (mulD x c ys ws).2 ∧ (mulD x c ys ws).2 < 1048576
 | [], _, c, _, _, h2, h3 => ⟨h2, h3⟩
 | y :: ys, ws, c, hy, hw, h2, h3 => by
  have e1 := hy.head
  have e2 := hw.headD
  have e3 := b9v h0 h1 e1.1 e1.2
  exact b8b h0 h1 ys ws.tail _ hy.tail hw.tail' (by omega) (by omega)
def mulF (b : List Int) : List Int → List Int → List Int
  | [], w => w
  | x :: xs, w => ((mulD x 0 b w).1 ++ [(mulD x 0 b w).2]).headD 0 :: mulF b xs (((mulD x 0 b w).1 ++ [(mulD x 0 b w).2]).tail)
theorem d1j {l : List Int} (h : l ≠ []) : l.headD 0 + 1048576 * val l.tail = val l := by
 cases l with
 | nil => exact absurd rfl h
 | cons d l => rfl
theorem c3a (b : List Int) : ∀ (xs w : List Int), w.length = b.length → val (mulF b xs w) = val w + val xs * val b
 | [], w, _ => by simp [mulF, val]
 | x :: xs, w, h => by
  have e1 := c6v x b w 0 h
  have e2 := c3a b xs (((mulD x 0 b w).1 ++ [(mulD x 0 b w).2]).tail) (by simp [b9k])
  have e3 := d1j (l := (mulD x 0 b w).1 ++ [(mulD x 0 b w).2]) (by simp)
  have e4 : val ((mulD x 0 b w).1 ++ [(mulD x 0 b w).2]) = valc (mulD x 0 b w).1 (mulD x 0 b w).2 := by
   rw [← b6q]; simp [val]
  simp only [mulF, val, e2]
  rw [show (x + 1048576 * val xs) * val b = x * val b + 1048576 * (val xs * val b) by grind]
  generalize x * val b = p at *
  generalize val xs * val b = q at *
  omega
theorem b9j (b : List Int) : ∀ (xs w : List Int), w.length = b.length → (mulF b xs w).length = xs.length + b.length
 | [], w, h => by simp [mulF, h]
 | x :: xs, w, h => by simp [mulF, b9j b xs _ (show (((mulD x 0 b w).1 ++ [(mulD x 0 b w).2]).tail).length = b.length by simp [b9k])]; omega
theorem c6r {b : List Int} (hb : InR b) : ∀ (xs w : List Int), InR xs → InR w → InR (mulF b xs w)
 | [], w, _, hw => hw
 | x :: xs, w, hx, hw => by
  have h0 := hx.head
  have e1 := b8b h0.1 h0.2 b w 0 hb hw (by decide) (by decide)
  have e2 : InR ((mulD x 0 b w).1 ++ [(mulD x 0 b w).2]) := (c6i x b w 0).append (InR.cons e1.1 e1.2 InR.nil)
  simp only [mulF]
  exact InR.cons e2.headD.1 e2.headD.2 (c6r hb xs _ hx.tail e2.tail')
def a6w (V : Int) : List Int → Int → List Int × Int
  | [], r => ([], r)
  | x :: xs, r => (((a6w V xs r).2 * 1048576 + x) / V :: (a6w V xs r).1, ((a6w V xs r).2 * 1048576 + x) % V)
theorem c0b {V : Int} : ∀ (l : List Int) (r : Int), val (a6w V l r).1 * V + (a6w V l r).2 = valc l r
 | [], r => by simp [a6w, val, valc]
 | x :: xs, r => by
  have ih := c0b (V := V) xs r
  simp only [a6w, val, valc]
  have h1 := Int.mul_ediv_add_emod ((a6w V xs r).2 * 1048576 + x) V
  rw [Int.add_mul, Int.mul_assoc]
  rw [Int.mul_comm V] at h1
  generalize ((a6w V xs r).2 * 1048576 + x) / V * V = p at *
  generalize val (a6w V xs r).1 * V = q at *
  omega
theorem b7n (V : Int) : ∀ (l : List Int) (r : Int), (a6w V l r).1.length = l.length
 | [], _ => rfl
 | x :: xs, r => by simp [a6w, b7n V xs]
theorem b7q {V : Int} (hV : 0 < V) : ∀ (l : List Int) (r : Int), 0 ≤ r → r < V → 0 ≤ (a6w V l r).2 ∧ (a6w V l r).2 < V
 | [], r, h0, h1 => ⟨h0, h1⟩
 | x :: xs, r, _, _ => ⟨Int.emod_nonneg _ (by omega), Int.emod_lt_of_pos _ hV⟩
theorem c3c {V : Int} (hV : 0 < V) : ∀ (l : List Int) (r : Int), InR l → 0 ≤ r → r < V → InR (a6w V l r).1
 | [], _, _, _, _ => InR.nil
 | x :: xs, r, hl, h0, h1 => by
  have h2 := b7q hV xs r h0 h1
  have h3 := hl.head
  refine InR.cons (Int.ediv_nonneg (by omega) (by omega)) (Int.ediv_lt_of_lt_mul hV ?_) (c3c hV xs r hl.tail h0 h1)
  omega
def sg (x : Int) : Int := if x < 0 then -1 else if 0 < x then 1 else 0
def cmpD : List Int → List Int → Int
  | x :: xs, y :: ys => if cmpD xs ys = 0 then sg (x - y) else cmpD xs ys
  | _, _ => 0
theorem cmpD_val : ∀ {a b : List Int}, InR a → InR b → a.length = b.length → cmpD a b = sg (val a - val b)
 | [], [], _, _, _ => by simp [cmpD, sg, val]
 | [], _ :: _, _, _, h => by simp at h
 | _ :: _, [], _, _, h => by simp at h
 | x :: xs, y :: ys, ha, hb, h => by
  have ih := cmpD_val ha.tail hb.tail (by simpa using h)
  have h1 := ha.head
  have h2 := hb.head
  simp only [cmpD, val, ih]
  unfold sg
  split <;> split <;> (try split) <;> (try split) <;> (try split) <;> omega
theorem cmpD_drop : ∀ (k : Nat) (a b : List Int), cmpD (a.drop k) (b.drop k) ≠ 0 → cmpD a b = cmpD (a.drop k) (b.drop k)
 | 0, _, _, _ => by simp
 | k + 1, [], b, h => by simp [cmpD] at h
 | k + 1, _ :: _, [], h => by simp [cmpD] at h
 | k + 1, x :: xs, y :: ys, h => by
  simp only [List.drop_succ_cons] at h ⊢
  have ih := cmpD_drop k xs ys h
  simp only [cmpD, ih, if_neg h]
theorem b4q (V : Int) : ∀ (a b : List Int) (r : Int), a6w V (a ++ b) r = ((a6w V a (a6w V b r).2).1 ++ (a6w V b r).1, (a6w V a (a6w V b r).2).2)
 | [], b, r => rfl
 | x :: xs, b, r => by
  simp only [List.cons_append, a6w, b4q V xs b r]
theorem pw_mono : ∀ {a b : Nat}, a ≤ b → pw a ≤ pw b
 | 0, 0, _ => Int.le_refl _
 | 0, b + 1, _ => by have := pw_pos b; have := pw_mono (Nat.zero_le b); simp only [pw] at *; omega
 | a + 1, 0, h => by omega
 | a + 1, b + 1, h => by have := pw_mono (show a ≤ b by omega); simp only [pw]; omega
theorem c8q {V1 V2 Vl P g rest T u2 Ul B : Int} (hB : B = 1048576) (hT : g * V1 + rest = T) (hV : 0 ≤ Vl) (hU : Ul < P) (hg : 0 ≤ g) (hbig : rest * B + u2 < g * V2) (hP : 0 < P) :
  Ul + P * (u2 + B * T) < g * (Vl + P * (V2 + B * V1)) := by
 have h1 : Ul + P * (u2 + B * T) - g * (Vl + P * (V2 + B * V1)) = Ul - g * Vl + P * (u2 + rest * B - g * V2) := by grind
 have h2 := Int.mul_nonneg hg hV
 have h3 : P * (u2 + rest * B - g * V2) ≤ P * (-1) := Int.mul_le_mul_of_nonneg_left (by omega) (by omega)
 omega
theorem d0u {V1 V2 Vl P g rest T u2 Ul B : Int} (hB : B = 1048576) (hT : g * V1 + rest = T) (hV : 0 ≤ Vl) (hVP : Vl ≤ P) (hU : 0 ≤ Ul) (hgB : g ≤ B) (hsm : g * V2 ≤ rest * B + u2) (hP : 0 < P) (h1 : 1 ≤ V1) (h2 : 0 ≤ V2) :
  (g - 1) * (Vl + P * (V2 + B * V1)) ≤ Ul + P * (u2 + B * T) := by
 have e1 : Ul + P * (u2 + B * T) - (g - 1) * (Vl + P * (V2 + B * V1)) = Ul - g * Vl + P * (u2 + rest * B - g * V2) + Vl + P * V2 + P * B * V1 := by grind
 have e2 : 0 ≤ P * (u2 + rest * B - g * V2) := Int.mul_nonneg (by omega) (by omega)
 have e3 : g * Vl ≤ B * P := Int.mul_le_mul hgB hVP hV (by omega)
 have e4 : P * B * 1 ≤ P * B * V1 := Int.mul_le_mul_of_nonneg_left h1 (Int.mul_nonneg (by omega) (by omega))
 have e5 : 0 ≤ P * V2 := Int.mul_nonneg (by omega) h2
 have e6 : B * P = P * B := Int.mul_comm _ _
 omega
theorem c3m {U V q : Int} (hV : 0 < V) (h0 : q * V ≤ U) (h1 : U < (q + 1) * V) : U / V = q ∧ U % V = U - q * V := by
 have h2 : (q + 1) * V = q * V + V := by grind
 have h3 := Int.ediv_emod_unique (a := U) (b := V) (r := U - q * V) (q := q) hV
 have h4 := h3.2 ⟨by rw [Int.mul_comm V q]; omega, by omega, by omega⟩
 exact h4
end Go.Proofs.YtknpjecpcmajiaaGreat.D

namespace Go.Proofs.YtknpjecpcmajiaaGreat.D
open Go Rt M
theorem inc64 {i : Nat} (h : i < 4611686018427387904) : iadd .i64 (i : Int) 1 = ((i + 1 : Nat) : Int) := by rw [a4e (by omega) (by omega)]; omega
theorem d4r {i : Nat} (h : i < 4611686018427387904) : isub .i64 ((i + 1 : Nat) : Int) 1 = (i : Int) := by rw [a2k (by omega) (by omega)]; omega
theorem drop_cons {α : Type} {a : List α} {i : Nat} {x : α} {xs : List α} (h : a.drop i = x :: xs) : ix a (i : Int) = some x ∧ a.drop (i + 1) = xs ∧ i < a.length := by
 have h1 : a[i]? = some x := by have := congrArg (fun l => l[0]?) h; simpa using this
 refine ⟨by rw [b4j]; exact h1, ?_, (List.getElem?_eq_some_iff.1 h1).1⟩
 rw [← List.drop_drop, h]; rfl
theorem drop_nil {α : Type} {a : List α} {i : Nat} (h : a.drop i = []) : a.length ≤ i := by simpa using h
theorem InR.drop {l : List Int} (h : InR l) (k : Nat) : InR (l.drop k) := fun e he => h e (List.mem_of_mem_drop he)
theorem InR.take {l : List Int} (h : InR l) (k : Nat) : InR (l.take k) := fun e he => h e (List.mem_of_mem_take he)
theorem d3g (n : Nat) (kont : Int → Option (List Int)) : ∀ (r : Nat) (c : List Int) (m : Nat), Canon c → c.length + r < 1099511627776 → r < m →
  a7b n (c ++ List.replicate r 0) kont m ((c.length + r : Nat) : Int) = kont (c.length : Int)
 | 0, c, m + 1, hc, hl, _ => by
  rw [b0a]
  simp only [Nat.add_zero, List.replicate_zero, List.append_nil]
  rcases List.eq_nil_or_concat c with rfl | ⟨p, d, rfl⟩
  ·rfl
  ·rw [List.concat_eq_append] at *
   have hd : (d == 0) = false := by
    have := hc.2
    simpa using this
   have e0 : isub .i64 (((p ++ [d]).length : Nat) : Int) 1 = (p.length : Int) := by rw [List.length_append, List.length_singleton]; exact d4r (by simp at hl; omega)
   have e1 : decide ((0 : Int) < ((p ++ [d]).length : Int)) = true := by rw [decide_eq_true_eq, List.length_append, List.length_singleton]; omega
   rw [e1, e0, a8w p d [] rfl]
   simp only [cond_true, Option.bind_some, hd, cond_false]
 | r + 1, c, m + 1, hc, hl, hm => by
  rw [b0a]
  have e1 : decide ((0 : Int) < ((c.length + (r + 1) : Nat) : Int)) = true := by simp; try omega
  have e0 : isub .i64 ((c.length + (r + 1) : Nat) : Int) 1 = ((c.length + r : Nat) : Int) := by rw [a2k (by omega) (by omega)]; omega
  have e2 : ix (c ++ List.replicate (r + 1) 0) ((c.length + r : Nat) : Int) = some 0 := by
   rw [b4j, List.getElem?_append_right (by omega)]
   simp
  rw [e1, e0, e2]
  simp only [cond_true, Option.bind_some, beq_self_eq_true]
  have e3 : ∀ (m : Nat) (k : Nat), k ≤ c.length + r → a7b n (c ++ List.replicate (r + 1) 0) kont m (k : Int) = a7b n (c ++ List.replicate r 0) kont m (k : Int) := by
   intro m
   induction m with
   | zero => intro k _; rfl
   | succ m ih =>
    intro k hk
    rw [b0a, b0a]
    cases k with
    | zero => rfl
    | succ k =>
     rw [d4r (by omega)]
     have e4 : ix (c ++ List.replicate (r + 1) 0) (k : Int) = ix (c ++ List.replicate r 0) (k : Int) := by
      rw [b4j, b4j, List.replicate_succ', ← List.append_assoc, List.getElem?_append_left (by simp; omega)]
     rw [e4, ih k (by omega)]
  rw [e3 m _ (Nat.le_refl _)]
  exact d3g n kont r c m hc (by omega) (by omega)
 | _, _, 0, _, _, h => by omega
theorem c0c {l : List Int} (hl : InR l) (hlen : l.length < 1099511627776) {n : Nat} (hn : l.length < n) : a3x n l = some (dig (val l).toNat) := by
  obtain ⟨r, hr⟩ := split_dig hl
  have h1 : l.length = (dig (val l).toNat).length + r := by conv => lhs; rw [hr]
                                                            simp
  unfold a3x
  have h2 := d3g n (fun (nx2 : Int) => (lsl l 0 nx2).bind fun l2 => some l2) r (dig (val l).toNat) n (b1h _) (by omega) (by omega)
  rw [← hr, ← h1] at h2
  rw [h2]
  have h3 := c7h (l := l) (p := 0) (q := (dig (val l).toNat).length) (by omega) (by omega)
  rw [show ((0 : Nat) : Int) = 0 from rfl] at h3
  rw [h3]
  simp only [Option.bind_some, List.drop_zero]
  have h4 : ∀ c : List Int, l = c ++ List.replicate r 0 → l.take c.length = c := fun c hc => by rw [hc]; exact List.take_left
  rw [h4 _ hr]
theorem d0e {l : List Int} (hl : InR l) (hlen : l.length < 1099511627776) : Ev (fun n => a3x n l) (dig (val l).toNat) := ⟨l.length + 1, fun _ hn => c0c hl hlen hn⟩
theorem d5s (n : Nat) (a b : List Int) (kont : Int → List Int → Option (List Int)) (ha : a.length < 1099511627776) (hb : InR b) : ∀ (us : List Int) (i : Nat) (c : Int) (pre suf : List Int) (m : Nat), a.drop i = us → InR us → 0 ≤ c → c ≤ 1 → pre.length = i → us.length ≤ suf.length → us.length < m →
  a9o n a b kont m c (i : Int) (pre ++ suf) = kont (addD c us (b.drop i)).2 (pre ++ ((addD c us (b.drop i)).1 ++ suf.drop us.length))
 | [], i, c, pre, suf, m + 1, hd, _, _, _, _, _, _ => by
  rw [b5l]
  have := drop_nil hd
  have e1 : decide ((i : Int) < (a.length : Int)) = false := by simp; omega
  rw [e1]; simp [addD]
 | x :: xs, i, c, pre, [], m + 1, _, _, _, _, _, hs, _ => by simp at hs
 | x :: xs, i, c, pre, z :: suf, m + 1, hd, hx, h0, h1, hp, hs, hm => by
  rw [b5l]
  obtain ⟨e1, e2, e3⟩ := drop_cons hd
  have e4 : decide ((i : Int) < (a.length : Int)) = true := by simp; omega
  have hx0 := hx.head
  have hy0 := (InR.drop hb i).headD
  have e5 : (bif decide ((i : Int) < (b.length : Int)) then (ix b (i : Int)).bind fun ex4 => some (iadd .i64 (iadd .i64 c x) ex4) else some (iadd .i64 c x)) = some (c + x + (b.drop i).headD 0) := by
   cases hbd : b.drop i with
   | nil =>
    have := drop_nil hbd
    have e6 : decide ((i : Int) < (b.length : Int)) = false := by simp; omega
    rw [e6, a4e (by omega) (by omega)]; simp
   | cons y ys =>
    obtain ⟨f1, _, f3⟩ := drop_cons hbd
    have e6 : decide ((i : Int) < (b.length : Int)) = true := by simp; omega
    rw [hbd] at hy0
    simp only [List.headD_cons] at hy0
    rw [e6, f1, a4e (x := c) (by omega) (by omega)]
    simp only [cond_true, Option.bind_some, List.headD_cons]
    rw [a4e (by omega) (by omega)]
  rw [e4, e1]
  simp only [cond_true, Option.bind_some]
  rw [e5]
  simp only [Option.bind_some]
  rw [a8w pre z suf (by omega), b5o, b0d pre z _ suf (by omega), c1e, inc64 (by omega)]
  simp only [Option.bind_some]
  have ih := d5s n a b kont ha hb xs (i + 1) ((c + x + (b.drop i).headD 0) / 1048576) (pre ++ [(c + x + (b.drop i).headD 0) % 1048576]) suf m e2 hx.tail (by omega) (by omega) (by simp; omega) (by simpa using hs) (by simpa using hm)
  rw [List.append_assoc, List.singleton_append] at ih
  rw [ih]
  have e7 : b.drop (i + 1) = (b.drop i).tail := by simp
  simp only [addD, e7, List.append_assoc, List.nil_append, List.cons_append, List.drop_succ_cons, List.length_cons]
 | _, _, _, _, _, 0, _, _, _, _, _, _, h => by omega
theorem d6f {a b : List Int} (ha : InR a) (hb : InR b) (hla : a.length < 1073741824) (hlb : b.length < 1073741824) : Ev (fun n => b6t n a b) (dig (val a + val b).toNat) := by
 have key : ∀ {a b : List Int}, InR a → InR b → a.length < 1073741824 → b.length ≤ a.length → Ev (fun n => (mks 8 (0 : Int) (iadd .i64 (a.length : Int) 1)).bind fun l1 =>
   a9o n a b (fun (carry2 : Int) (l3 : List Int) => (ix l3 (a.length : Int)).bind fun _ => (lset l3 (a.length : Int) carry2).bind fun l4 => (a3x n l4).bind fun v1 => some v1) n 0 0 l1) (dig (val a + val b).toNat) := by
  intro a b ha hb hla hle
  refine Ev.step (by rw [inc64 (by omega)]; exact c2q (by omega)) ?_
  refine ⟨a.length + 2, fun n hn => ?_⟩
  have h1 := d5s n a b (fun (carry2 : Int) (l3 : List Int) => (ix l3 (a.length : Int)).bind fun _ => (lset l3 (a.length : Int) carry2).bind fun l4 => (a3x n l4).bind fun v1 => some v1) (by omega) hb a 0 0 [] (List.replicate (a.length + 1) 0) n rfl ha (by decide) (by decide) rfl (by simp) (by omega)
  simp only [List.nil_append, List.drop_zero] at h1
  rw [show ((0 : Nat) : Int) = 0 from rfl] at h1
  dsimp only
  rw [h1]
  have e1 : (List.replicate (a.length + 1) (0 : Int)).drop a.length = [0] := by simp
  have e2 := addD_len a b 0
  have e3 := addD_carry a b 0 ha hb (by decide) (by decide)
  have e4 := addD_val a b 0 hle
  rw [e1, a8w _ 0 [] (by rw [e2]), b0d _ 0 _ [] (by rw [e2])]
  simp only [Option.bind_some]
  have e5 : InR ((addD 0 a b).1 ++ [(addD 0 a b).2]) := (addD_in a b 0).append (InR.cons e3.1 (by omega) InR.nil)
  rw [c0c e5 (by simp [e2]; omega) (by simp [e2]; omega)]
  simp only [Option.bind_some]
  have e6 : val ((addD 0 a b).1 ++ [(addD 0 a b).2]) = val a + val b := by
   rw [← b6q]
   simp only [val, Int.mul_zero, Int.add_zero]
   omega
  rw [e6]
 unfold b6t
 by_cases hlt : a.length < b.length
 ·refine Ev.step (a := (b, a)) (by rw [show decide ((a.length : Int) < (b.length : Int)) = true from by simp; omega]; rfl) ?_
  rw [Int.add_comm]
  exact key hb ha hlb (by omega)
 ·refine Ev.step (a := (a, b)) (by rw [show decide ((a.length : Int) < (b.length : Int)) = false from by simp; omega]; rfl) ?_
  exact key ha hb hla (by omega)
end Go.Proofs.YtknpjecpcmajiaaGreat.D

namespace Go.Proofs.YtknpjecpcmajiaaGreat.D
open Go Rt M
theorem d3v (n : Nat) {a : List Int} (h : a.length < 1073741824) : a2c n a = some a := by
 have h2 : (([] : List Int).length + a.length) * 8 ≤ 140737488355328 := by simp only [List.length_nil, Nat.zero_add]; omega
 show app 8 [] a = some a
 rw [b6z h2, List.nil_append]
theorem c8z {a : List Int} (h : a.length < 1073741824) : ∀ n, a2c n a = some a := fun n => d3v n h
theorem c9x {a : List Int} (h : ∀ n, a2c n a = some a) : Ev (fun n => a2c n a) a := ⟨0, fun n _ => h n⟩
theorem b3p {a : List Int} (h : a.length < 1073741824) : Ev (fun n => a2c n a) a := c9x (c8z h)
theorem d2a {x c y : Int} (h0 : 0 ≤ c) (h1 : c ≤ 1) (hx0 : 0 ≤ x) (hx1 : x < 1048576) (hy0 : 0 ≤ y) (hy1 : y < 1048576) {t : Int} (ht : t = x - c - y) : t / 1048576 % 2 = -(t / 1048576) ∧ 0 ≤ -(t / 1048576) ∧ -(t / 1048576) ≤ 1 := by
 subst ht; omega
theorem d6c (n : Nat) (b v : List Int) (kont : List Int → Option (List Int)) (hv : v.length < 1099511627776) (hb : InR b) : ∀ (us : List Int) (i : Nat) (c : Int) (pre : List Int) (m : Nat), InR us → 0 ≤ c → c ≤ 1 → pre.length = i → i + us.length = v.length → us.length < m →
  b0m n b v kont m c (i : Int) (pre ++ us) = kont (pre ++ (setD 1 c us (b.drop i)).1)
 | [], i, c, pre, m + 1, _, _, _, _, hl, _ => by
  rw [b5c]
  simp only [List.length_nil] at hl
  have e1 : decide ((i : Int) < (v.length : Int)) = false := by simp; omega
  rw [e1]; simp [setD]
 | x :: xs, i, c, pre, m + 1, hx, h0, h1, hp, hl, hm => by
  rw [b5c]
  simp only [List.length_cons] at hl hm
  have e4 : decide ((i : Int) < (v.length : Int)) = true := by simp; omega
  have hx0 := hx.head
  have hy0 := (InR.drop hb i).headD
  have e7 : b.drop (i + 1) = (b.drop i).tail := by simp
  obtain ⟨t, ht⟩ : ∃ t, t = x - c - (b.drop i).headD 0 := ⟨_, rfl⟩
  have e5 : (bif decide ((i : Int) < (b.length : Int)) then (ix b (i : Int)).bind fun ex3 => some (isub .i64 (isub .i64 x c) ex3) else some (isub .i64 x c)) = some t := by
   rw [ht]
   cases hbd : b.drop i with
   | nil =>
    have := drop_nil hbd
    have e6 : decide ((i : Int) < (b.length : Int)) = false := by simp; omega
    rw [e6, a2k (by omega) (by omega)]; simp
   | cons y ys =>
    obtain ⟨f1, _, f3⟩ := drop_cons hbd
    have e6 : decide ((i : Int) < (b.length : Int)) = true := by simp; omega
    rw [hbd] at hy0
    simp only [List.headD_cons] at hy0
    rw [e6, f1, a2k (x := x) (by omega) (by omega)]
    simp only [cond_true, Option.bind_some, List.headD_cons]
    rw [a2k (by omega) (by omega)]
  obtain ⟨b1, b2, b3⟩ := d2a h0 h1 hx0.1 hx0.2 hy0.1 hy0.2 ht
  have e8 : x - c - 1 * (b.drop i).headD 0 = t := by rw [ht, Int.one_mul]
  have e9 : setD 1 c (x :: xs) (b.drop i) = (t % 1048576 :: (setD 1 (-(t / 1048576)) xs (b.drop (i + 1))).1, (setD 1 (-(t / 1048576)) xs (b.drop (i + 1))).2) := by
   rw [e7]; simp only [setD, e8]
  have ih := d6c n b v kont hv hb xs (i + 1) (-(t / 1048576)) (pre ++ [t % 1048576]) m hx.tail b2 b3 (by simp; omega) (by omega) (by omega)
  rw [e4, a8w pre x xs (by omega)]
  simp only [cond_true, Option.bind_some]
  rw [e5, Option.bind_some, c1e, b5o, b0d pre x _ xs (by omega), inc64 (by omega)]
  simp only [Option.bind_some]
  rw [d2f, b1, e9]
  rw [List.append_assoc, List.singleton_append] at ih
  rw [ih, List.append_assoc, List.singleton_append]
 | _, _, _, _, 0, _, _, _, _, _, h => by omega
theorem c2t {us vs : List Int} {g : Int} (hu : InR us) (hv : InR vs) (hl : vs.length ≤ us.length) (hg : 0 ≤ g) (h : g * val vs ≤ val us) : (setD g 0 us vs).2 = 0 ∧ val (setD g 0 us vs).1 = val us - g * val vs := by
 have e1 := c3d g us vs 0 hl
 have e2 := b6g hg us vs 0 hu hv (by decide) hg
 have e3 := val_lt (b4o g us vs 0)
 rw [valc_eq, b5u] at e1
 rw [b5u] at e3
 have hb : (setD g 0 us vs).2 = 0 := by
  rcases (show 0 < (setD g 0 us vs).2 ∨ (setD g 0 us vs).2 ≤ 0 by omega) with h4 | h4
  ·have h5 : pw us.length * (-(setD g 0 us vs).2) ≤ pw us.length * (-1) := Int.mul_le_mul_of_nonneg_left (by omega) (by have := pw_pos us.length; omega)
   omega
  ·omega
 refine ⟨hb, ?_⟩
 rw [hb] at e1
 simp only [Int.neg_zero, Int.mul_zero] at e1
 omega
theorem d5p {a b : List Int} (ha : InR a) (hb : InR b) (hla : a.length < 1073741824) (hlb : b.length ≤ a.length) (h : val b ≤ val a) : Ev (fun n => b5j n a b) (dig (val a - val b).toNat) := by
 unfold b5j
 refine Ev.bind (b3p hla) ?_
 refine ⟨a.length + 1, fun n hn => ?_⟩
 have h1 := d6c n b a (fun (l2 : List Int) => (a3x n l2).bind fun v2 => some v2) (by omega) hb a 0 0 [] n ha (by decide) (by decide) rfl (by simp) (by omega)
 simp only [List.nil_append, List.drop_zero] at h1
 rw [show ((0 : Nat) : Int) = 0 from rfl] at h1
 dsimp only
 rw [h1, c0c (b4o _ _ _ _) (by rw [b5u]; omega) (by rw [b5u]; omega)]
 have h2 := c2t (g := 1) ha hb hlb (by decide) (by omega)
 simp only [Option.bind_some]
 rw [h2.2, Int.one_mul]
theorem c4i (n : Nat) (u v : List Int) (g : Int) (kont : Int → List Int → Option (List Int × Int)) (hlu : u.length < 1099511627776) (hv : InR v) (hg0 : 0 ≤ g) (hg1 : g ≤ 1048576) : ∀ (us : List Int) (i : Nat) (c : Int) (pre : List Int) (m : Nat), InR us → 0 ≤ c → c ≤ g → pre.length = i → i + us.length = u.length → us.length < m →
  a7a n u v g kont m c (i : Int) (pre ++ us) = kont (setD g c us (v.drop i)).2 (pre ++ (setD g c us (v.drop i)).1)
 | [], i, c, pre, m + 1, _, _, _, _, hl, _ => by
  rw [b2i]
  simp only [List.length_nil] at hl
  have e1 : decide ((i : Int) < (u.length : Int)) = false := by simp; omega
  rw [e1]; simp [setD]
 | x :: xs, i, c, pre, m + 1, hx, h0, h1, hp, hl, hm => by
  rw [b2i]
  simp only [List.length_cons] at hl hm
  have e4 : decide ((i : Int) < (u.length : Int)) = true := by simp; omega
  have hx0 := hx.head
  have hy0 := (InR.drop hv i).headD
  have hmul := b6i hg0 hy0.1 hy0.2
  have e5 : (bif decide ((i : Int) < (v.length : Int)) then (ix v (i : Int)).bind fun ex6 => some (isub .i64 (isub .i64 x c) (imul .i64 g ex6)) else some (isub .i64 x c)) = some (x - c - g * (v.drop i).headD 0) := by
   cases hbd : v.drop i with
   | nil =>
    have := drop_nil hbd
    have e6 : decide ((i : Int) < (v.length : Int)) = false := by simp; omega
    rw [e6, a2k (by omega) (by omega)]; simp
   | cons y ys =>
    obtain ⟨f1, _, f3⟩ := drop_cons hbd
    have e6 : decide ((i : Int) < (v.length : Int)) = true := by simp; omega
    rw [hbd] at hy0 hmul
    simp only [List.headD_cons] at hy0 hmul
    rw [e6, f1, a2k (x := x) (by omega) (by omega)]
    simp only [cond_true, Option.bind_some, List.headD_cons]
    rw [a8t (by omega) (by omega), a2k (by omega) (by omega)]
  rw [e4, a8w pre x xs (by omega)]
  simp only [cond_true, Option.bind_some]
  rw [e5]
  simp only [Option.bind_some]
  rw [c1e, b5o, b0d pre x _ xs (by omega), inc64 (by omega)]
  simp only [Option.bind_some]
  rw [Int.zero_sub, a6n (by omega) (by omega)]
  have ih := c4i n u v g kont hlu hv hg0 hg1 xs (i + 1) (-((x - c - g * (v.drop i).headD 0) / 1048576)) (pre ++ [(x - c - g * (v.drop i).headD 0) % 1048576]) m hx.tail (by omega) (by omega) (by simp; omega) (by omega) (by omega)
  rw [List.append_assoc, List.singleton_append] at ih
  rw [ih]
  have e7 : v.drop (i + 1) = (v.drop i).tail := by simp
  simp only [setD, e7, List.append_assoc, List.nil_append, List.cons_append]
 | _, _, _, _, 0, _, _, _, _, _, h => by omega
theorem c4z (n : Nat) (v l0 : List Int) (kont : List Int → Option (List Int × Int)) (hl0 : l0.length < 1099511627776) (hv : InR v) : ∀ (us : List Int) (i : Nat) (c : Int) (pre : List Int) (m : Nat), InR us → 0 ≤ c → c ≤ 1 → pre.length = i → i + us.length = l0.length → us.length < m →
  a5w n v l0 kont m c (i : Int) (pre ++ us) = kont (pre ++ (addD c us (v.drop i)).1)
 | [], i, c, pre, m + 1, _, _, _, _, hl, _ => by
  rw [b1z]
  simp only [List.length_nil] at hl
  have e1 : decide ((i : Int) < (l0.length : Int)) = false := by simp; omega
  rw [e1]; simp [addD]
 | x :: xs, i, c, pre, m + 1, hx, h0, h1, hp, hl, hm => by
  rw [b1z]
  simp only [List.length_cons] at hl hm
  have e4 : decide ((i : Int) < (l0.length : Int)) = true := by simp; omega
  have hx0 := hx.head
  have hy0 := (InR.drop hv i).headD
  have e5 : (bif decide ((i : Int) < (v.length : Int)) then (ix v (i : Int)).bind fun ex3 => some (iadd .i64 (iadd .i64 c x) ex3) else some (iadd .i64 c x)) = some (c + x + (v.drop i).headD 0) := by
   cases hbd : v.drop i with
   | nil =>
    have := drop_nil hbd
    have e6 : decide ((i : Int) < (v.length : Int)) = false := by simp; omega
    rw [e6, a4e (by omega) (by omega)]; simp
   | cons y ys =>
    obtain ⟨f1, _, f3⟩ := drop_cons hbd
    have e6 : decide ((i : Int) < (v.length : Int)) = true := by simp; omega
    rw [hbd] at hy0
    simp only [List.headD_cons] at hy0
    rw [e6, f1, a4e (x := c) (by omega) (by omega)]
    simp only [cond_true, Option.bind_some, List.headD_cons]
    rw [a4e (by omega) (by omega)]
  rw [e4, a8w pre x xs (by omega)]
  simp only [cond_true, Option.bind_some]
  rw [e5]
  simp only [Option.bind_some]
  rw [c1e, b5o, b0d pre x _ xs (by omega), inc64 (by omega)]
  simp only [Option.bind_some]
  have ih := c4z n v l0 kont hl0 hv xs (i + 1) ((c + x + (v.drop i).headD 0) / 1048576) (pre ++ [(c + x + (v.drop i).headD 0) % 1048576]) m hx.tail (by omega) (by omega) (by simp; omega) (by omega) (by omega)
  rw [List.append_assoc, List.singleton_append] at ih
  rw [ih]
  have e7 : v.drop (i + 1) = (v.drop i).tail := by simp
  simp only [addD, e7, List.append_assoc, List.nil_append, List.cons_append]
 | _, _, _, _, 0, _, _, _, _, _, h => by omega
theorem d2m {u v : List Int} {g : Int} (hu : InR u) (hv : InR v) (hl : v.length ≤ u.length) (hlu : u.length < 1073741824) (hg0 : 0 ≤ g) (hg1 : g ≤ 1048576) (hV : 0 < val v) (h1 : val u < (g + 1) * val v) (h2 : (g - 1) * val v ≤ val u) {n : Nat} (hn : u.length < n) :
  ∃ r, a9w n u v g = some (r, val u / val v) ∧ InR r ∧ r.length = u.length ∧ val r = val u % val v := by
 have e0 := c4i n u v g (fun (borrow2 : Int) (l2 : List Int) => bif borrow2 == 0 then some (l2, g) else a5w n v l2 (fun (l4 : List Int) => some (l4, isub .i64 g 1)) n 0 0 l2) (by omega) hv hg0 hg1 u 0 0 [] n hu (by decide) hg0 rfl (by simp) hn
 simp only [List.nil_append, List.drop_zero] at e0
 rw [show ((0 : Nat) : Int) = 0 from rfl] at e0
 have e1 := b5u g u v 0
 by_cases h : g * val v ≤ val u
 ·obtain ⟨f1, f2⟩ := c2t hu hv hl hg0 h
  obtain ⟨q1, q2⟩ := c3m hV h h1
  refine ⟨(setD g 0 u v).1, ?_, b4o g u v 0, e1, by rw [f2, q2]⟩
  unfold a9w
  rw [e0, f1, q1]; rfl
 ·have e2 := c3d g u v 0 hl
  have e3 := b6g hg0 u v 0 hu hv (by decide) hg0
  have e4 := val_lt (b4o g u v 0)
  have e5 := val_nonneg (b4o g u v 0)
  have e6 := val_lt hv
  have e7 := pw_mono hl
  have e8 := pw_pos u.length
  rw [valc_eq, e1] at e2
  rw [e1] at e4
  have e9 : (g - 1) * val v = g * val v - val v := by grind
  have hb : (setD g 0 u v).2 = 1 := by
   rcases (show 1 < (setD g 0 u v).2 ∨ (setD g 0 u v).2 ≤ 1 by omega) with h4 | h4
   ·have h5 : pw u.length * (-(setD g 0 u v).2) ≤ pw u.length * (-2) := Int.mul_le_mul_of_nonneg_left (by omega) (by omega)
    omega
   ·rcases (show 0 < (setD g 0 u v).2 ∨ (setD g 0 u v).2 ≤ 0 by omega) with h5 | h5
    ·omega
    ·have : (setD g 0 u v).2 = 0 := by omega
     rw [this] at e2
     simp only [Int.neg_zero, Int.mul_zero] at e2
     omega
  rw [hb] at e2
  have e10 := c4z n v (setD g 0 u v).1 (fun (l4 : List Int) => some (l4, isub .i64 g 1)) (by rw [e1]; omega) hv (setD g 0 u v).1 0 0 [] n (b4o g u v 0) (by decide) (by decide) rfl (by simp) (by rw [e1]; exact hn)
  simp only [List.nil_append, List.drop_zero] at e10
  rw [show ((0 : Nat) : Int) = 0 from rfl] at e10
  have a1 := addD_len (setD g 0 u v).1 v 0
  have a2 := addD_val (setD g 0 u v).1 v 0 (by rw [e1]; exact hl)
  have a3 := addD_carry (setD g 0 u v).1 v 0 (b4o g u v 0) hv (by decide) (by decide)
  have a4 := addD_in (setD g 0 u v).1 v 0
  have a5 := val_lt a4
  have a6 := val_nonneg a4
  rw [valc_eq, a1, e1] at a2
  rw [a1, e1] at a5
  obtain ⟨q1, q2⟩ := c3m (q := g - 1) hV h2 (by rw [show g - 1 + 1 = g by omega]; omega)
  have hc : (addD 0 (setD g 0 u v).1 v).2 = 1 := by
   rcases (show 0 < (addD 0 (setD g 0 u v).1 v).2 ∨ (addD 0 (setD g 0 u v).1 v).2 ≤ 0 by omega) with h5 | h5
   ·omega
   ·have : (addD 0 (setD g 0 u v).1 v).2 = 0 := by omega
    rw [this] at a2
    omega
  rw [hc] at a2
  refine ⟨(addD 0 (setD g 0 u v).1 v).1, ?_, a4, by rw [a1, e1], by rw [q2]; omega⟩
  unfold a9w
  have hb' : ((setD g 0 u v).2 == 0) = false := by rw [hb]; rfl
  rw [e0, hb']
  simp only [cond_false]
  rw [e10, a2k (by omega) (by omega), q1]
theorem d2x (n : Nat) (b : List Int) (i : Nat) (x : Int) (kont : Int → List Int → Option (List Int)) (hlb : b.length < 1073741824) (hi : i < 1073741824) (hx0 : 0 ≤ x) (hx1 : x < 1048576) : ∀ (ys ws : List Int) (k : Nat) (c : Int) (pre rest : List Int) (m : Nat), b.drop k = ys → InR ys → InR ws → ws.length = ys.length → 0 ≤ c → c < 1048576 → pre.length = i + k → ys.length < m →
  a9m n b (i : Int) x kont m c (k : Int) (pre ++ (ws ++ rest)) = kont (mulD x c ys ws).2 (pre ++ ((mulD x c ys ws).1 ++ rest))
 | [], ws, k, c, pre, rest, m + 1, hd, _, _, hw, _, _, _, _ => by
  rw [b4l]
  have := drop_nil hd
  have e1 : decide ((k : Int) < (b.length : Int)) = false := by simp; omega
  have : ws = [] := List.eq_nil_of_length_eq_zero (by simpa using hw)
  subst this
  rw [e1]; simp [mulD]
 | y :: ys, [], k, c, pre, rest, m + 1, _, _, _, hw, _, _, _, _ => by simp at hw
 | y :: ys, w :: ws, k, c, pre, rest, m + 1, hd, hy, hws, hw, h0, h1, hp, hm => by
  rw [b4l]
  obtain ⟨f1, f2, f3⟩ := drop_cons hd
  simp only [List.length_cons] at hw hm
  have e4 : decide ((k : Int) < (b.length : Int)) = true := by simp; omega
  have hw0 := hws.head
  have hy0 := hy.head
  have hmul := b9v hx0 hx1 hy0.1 hy0.2
  have e5 : iadd .i64 (i : Int) (k : Int) = (pre.length : Int) := by rw [a4e (by omega) (by omega)]; omega
  rw [e4, f1, e5, List.cons_append, a8w pre w _ rfl]
  simp only [cond_true, Option.bind_some]
  rw [a8t (by omega) (by omega), a4e (x := w) (by omega) (by omega), a4e (by omega) (by omega), b5o, b0d pre w _ _ rfl, c1e, inc64 (by omega)]
  simp only [Option.bind_some]
  have ih := d2x n b i x kont hlb hi hx0 hx1 ys ws (k + 1) ((w + x * y + c) / 1048576) (pre ++ [(w + x * y + c) % 1048576]) rest m f2 hy.tail hws.tail (by omega) (by omega) (by omega) (by simp; omega) (by omega)
  rw [List.append_assoc, List.singleton_append] at ih
  rw [ih]
  simp only [mulD, List.headD_cons, List.tail_cons, List.append_assoc, List.nil_append, List.cons_append]
 | _, _, _, _, _, _, 0, _, _, _, _, _, _, _, h => by omega
theorem d3h (n : Nat) (a b : List Int) (kont : List Int → Option (List Int)) (hla : a.length < 1073741824) (hlb : b.length < 1073741824) (hb : InR b) (hn : b.length < n) : ∀ (us : List Int) (w : List Int) (i : Nat) (pre : List Int) (m : Nat), a.drop i = us → InR us → InR w → w.length = b.length → pre.length = i → us.length < m →
  a8o n a b kont m (i : Int) (pre ++ (w ++ List.replicate us.length 0)) = kont (pre ++ mulF b us w)
 | [], w, i, pre, m + 1, hd, _, _, _, _, _ => by
  rw [b5i]
  have := drop_nil hd
  have e1 : decide ((i : Int) < (a.length : Int)) = false := by simp; omega
  rw [e1]; simp [mulF]
 | x :: xs, w, i, pre, m + 1, hd, hx, hw, hwl, hp, hm => by
  rw [b5i]
  obtain ⟨f1, f2, f3⟩ := drop_cons hd
  simp only [List.length_cons] at hm
  have e4 : decide ((i : Int) < (a.length : Int)) = true := by simp; omega
  have hx0 := hx.head
  rw [e4, f1]
  simp only [cond_true, Option.bind_some, List.length_cons, List.replicate_succ]
  have h2 := d2x n b i x (fun (carry2 : Int) (l5 : List Int) =>
    (ix l5 (iadd .i64 (i : Int) (b.length : Int))).bind fun ex2 =>
    (ix l5 (iadd .i64 (i : Int) (b.length : Int))).bind fun _ =>
    (lset l5 (iadd .i64 (i : Int) (b.length : Int)) (iadd .i64 ex2 carry2)).bind fun l6 =>
    a8o n a b kont m (iadd .i64 (i : Int) 1) l6) hlb (by omega) hx0.1 hx0.2 b w 0 0 pre (0 :: List.replicate xs.length 0) n rfl hb hw hwl (by decide) (by decide) (by omega) hn
  rw [show ((0 : Nat) : Int) = 0 from rfl] at h2
  rw [h2]
  have hc := b8b hx0.1 hx0.2 b w 0 hb hw (by decide) (by decide)
  have hlen := b9k x b w 0
  have e5 : iadd .i64 (i : Int) (b.length : Int) = (((pre ++ (mulD x 0 b w).1).length : Nat) : Int) := by
   rw [a4e (by omega) (by omega), List.length_append, hlen]; omega
  rw [e5, ← List.append_assoc, a8w _ 0 _ rfl]
  simp only [Option.bind_some]
  rw [b0d _ 0 _ _ rfl, a4e (by omega) (by omega), inc64 (by omega)]
  simp only [Option.bind_some, Int.zero_add]
  have hne : (mulD x 0 b w).1 ++ [(mulD x 0 b w).2] ≠ [] := by simp
  obtain ⟨h, t, ht⟩ := List.exists_cons_of_ne_nil hne
  have e6 : pre ++ (mulD x 0 b w).1 ++ (mulD x 0 b w).2 :: List.replicate xs.length 0 = (pre ++ [h]) ++ (t ++ List.replicate xs.length 0) := by
   rw [List.append_assoc, List.append_assoc, ← List.singleton_append (x := (mulD x 0 b w).2), ← List.append_assoc (mulD x 0 b w).1, ht]
   simp
  have hin : InR ((mulD x 0 b w).1 ++ [(mulD x 0 b w).2]) := (c6i x b w 0).append (InR.cons hc.1 hc.2 InR.nil)
  rw [ht] at hin
  have htl : t.length = b.length := by
   have := congrArg List.length ht
   simp [hlen] at this
   omega
  have ih := d3h n a b kont hla hlb hb hn xs t (i + 1) (pre ++ [h]) m f2 hx.tail hin.tail htl (by simp; omega) (by omega)
  rw [e6, ih]
  simp only [mulF, ht, List.headD_cons, List.tail_cons, List.append_assoc, List.singleton_append]
 | _, _, _, _, 0, _, _, _, _, _, h => by omega
theorem c9s {a b : List Int} (ha : InR a) (hb : InR b) (hla : a.length < 536870912) (hlb : b.length < 536870912) : Ev (fun n => b3d n a b) (dig (val a * val b).toNat) := by
 unfold b3d
 refine Ev.step (by rw [a4e (by omega) (by omega), show (a.length : Int) + (b.length : Int) = ((a.length + b.length : Nat) : Int) by omega]; exact c2q (by omega)) ?_
 refine ⟨a.length + b.length + 1, fun n hn => ?_⟩
 have h1 := d3h n a b (fun (l3 : List Int) => (a3x n l3).bind fun v1 => some v1) (by omega) (by omega) hb (by omega) a (List.replicate b.length 0) 0 [] n rfl ha (InR.rep _) (by simp) rfl (by omega)
 simp only [List.nil_append, List.replicate_append_replicate] at h1
 rw [show ((0 : Nat) : Int) = 0 from rfl, Nat.add_comm] at h1
 dsimp only
 rw [h1, c0c (c6r hb _ _ ha (InR.rep _)) (by rw [b9j b a _ (by simp)]; omega) (by rw [b9j b a _ (by simp)]; omega)]
 simp only [Option.bind_some]
 rw [c3a b a _ (by simp), val_rep, Int.zero_add]
theorem c9p (n : Nat) (a : List Int) (d : Int) (kont : Int → List Int → Option (List Int × Int)) (ha : InR a) (hla : a.length < 1073741824) (hd : 0 < d) (hd1 : d ≤ 1048576) : ∀ (k : Nat) (m : Nat), k ≤ a.length → k < m →
  a7s n a d kont m (a6w d (a.drop k) 0).2 ((k : Int) - 1) (List.replicate k 0 ++ (a6w d (a.drop k) 0).1) = kont (a6w d a 0).2 (a6w d a 0).1
 | 0, m + 1, _, _ => by
  rw [b2y]
  have e1 : decide ((0 : Int) ≤ ((0 : Nat) : Int) - 1) = false := by decide
  rw [e1]; simp
 | k + 1, m + 1, hk, hm => by
  rw [b2y]
  have hk' : k < a.length := by omega
  have hdrop : a.drop k = a[k] :: a.drop (k + 1) := List.drop_eq_getElem_cons hk'
  have hx := ha a[k] (List.getElem_mem hk')
  have e0 : ((k + 1 : Nat) : Int) - 1 = (k : Int) := by omega
  have e1 : decide ((0 : Int) ≤ (k : Int)) = true := by simp
  have e2 : ix a (k : Int) = some a[k] := (drop_cons hdrop).1
  have hr := b7q hd (a.drop (k + 1)) 0 (by decide) hd
  rw [e0, e1, e2, c0p (by omega) (by omega)]
  simp only [cond_true, Option.bind_some]
  have e3 : 0 ≤ (a6w d (a.drop (k + 1)) 0).2 * 1048576 + a[k] := by omega
  rw [c0h hr.1 (by omega) hx.1 hx.2, b9x e3 (by omega) hd, b9t e3 hd, List.replicate_succ', List.append_assoc, List.singleton_append, a8w _ 0 _ (by simp)]
  simp only [Option.bind_some]
  rw [b0d _ 0 _ _ (by simp)]
  simp only [Option.bind_some]
  have e4 : isub .i64 (k : Int) 1 = (k : Int) - 1 := a2k (by omega) (by omega)
  have ih := c9p n a d kont ha hla hd hd1 k m (by omega) (by omega)
  rw [hdrop] at ih
  simp only [a6w] at ih
  rw [e4, ih]
 | _, 0, _, h => by omega
theorem d1i {a : List Int} {d : Int} (ha : InR a) (hla : a.length < 1073741824) (hd : 0 < d) (hd1 : d ≤ 1048576) {n : Nat} (hn : a.length < n) : a8z n a d = some (dig (val a / d).toNat, val a % d) := by
 unfold a8z
 rw [c2q (by omega), Option.bind_some]
 have h1 := c9p n a d (fun (rx2 : Int) (l3 : List Int) => (a3x n l3).bind fun v1 => some (v1, rx2)) ha hla hd hd1 a.length n (by omega) (by omega)
 simp only [List.drop_length, a6w, List.append_nil] at h1
 rw [a2k (by omega) (by omega), h1, c0c (c3c hd a 0 ha (by decide) hd) (by rw [b7n]; omega) (by rw [b7n]; omega)]
 simp only [Option.bind_some]
 have h2 := c0b (V := d) a 0
 have h3 := b7q hd a 0 (by decide) hd
 rw [valc_eq, Int.mul_zero, Int.add_zero] at h2
 have h4 : ((val (a6w d a 0).1) + 1) * d = val (a6w d a 0).1 * d + d := by grind
 obtain ⟨q1, q2⟩ := c3m (U := val a) (q := val (a6w d a 0).1) hd (by omega) (by omega)
 rw [q1, show (a6w d a 0).2 = val a % d by omega]
theorem d2o {a : List Int} {d : Int} (ha : InR a) (hla : a.length < 1073741824) (hd : 0 < d) (hd1 : d ≤ 1048576) : Ev (fun n => a8z n a d) (dig (val a / d).toNat, val a % d) :=
 ⟨a.length + 1, fun _ hn => d1i ha hla hd hd1 hn⟩
theorem b6p (n : Nat) (x y : Int) : a5h n x y = some (sg (x - y)) := by
 unfold a5h b0h
 simp only [Option.bind_some, bne_self_eq_false, cond_false]
 unfold sg
 by_cases h : x < y
 ·simp only [h, decide_true, cond_true]; rw [if_pos (by omega)]
 ·by_cases h2 : y < x
  ·simp only [h, h2, decide_true, decide_false, cond_true, cond_false]; rw [if_neg (by omega), if_pos (by omega)]
  ·simp only [h, h2, decide_false, cond_false]; rw [if_neg (by omega), if_neg (by omega)]
theorem c5h (n : Nat) (a b : List Int) (hl : a.length = b.length) (hla : a.length < 1099511627776) : ∀ (k : Nat) (m : Nat), k ≤ a.length → k < m → cmpD (a.drop k) (b.drop k) = 0 → a6q n a b (some 0) m ((k : Int) - 1) = some (cmpD a b)
 | 0, m + 1, _, _, h => by
  rw [b1o]
  have e1 : decide ((0 : Int) ≤ ((0 : Nat) : Int) - 1) = false := by decide
  rw [e1]
  simp only [List.drop_zero] at h
  rw [h]; rfl
 | k + 1, m + 1, hk, hm, h => by
  rw [b1o]
  have hk' : k < a.length := by omega
  have hkb : k < b.length := by omega
  have hda : a.drop k = a[k] :: a.drop (k + 1) := List.drop_eq_getElem_cons hk'
  have hdb : b.drop k = b[k] :: b.drop (k + 1) := List.drop_eq_getElem_cons hkb
  have e0 : ((k + 1 : Nat) : Int) - 1 = (k : Int) := by omega
  have e1 : decide ((0 : Int) ≤ (k : Int)) = true := by simp
  rw [e0, e1, (drop_cons hda).1, (drop_cons hdb).1]
  simp only [cond_true, Option.bind_some, b6p]
  have e2 : cmpD (a.drop k) (b.drop k) = sg (a[k] - b[k]) := by rw [hda, hdb]; simp only [cmpD, h, if_true]
  by_cases hne : a[k] = b[k]
  ·have e3 : (a[k] != b[k]) = false := by simp [hne]
   rw [e3]
   simp only [cond_false]
   rw [a2k (by omega) (by omega)]
   refine c5h n a b hl hla k m (by omega) (by omega) ?_
   rw [e2, hne]; simp [sg]
  ·have e3 : (a[k] != b[k]) = true := by simpa using hne
   rw [e3]
   simp only [cond_true]
   have e4 : sg (a[k] - b[k]) ≠ 0 := by unfold sg; split <;> (try split) <;> omega
   rw [cmpD_drop k a b (by rw [e2]; exact e4), e2]
 | _, 0, _, h, _ => by omega
theorem c4v {a b : List Int} (ha : Canon a) (hb : Canon b) (hla : a.length < 1099511627776) {n : Nat} (hn : a.length < n) : a7q n a b = some (sg (val a - val b)) := by
 unfold a7q
 by_cases hl : a.length = b.length
 ·have e1 : ((a.length : Int) != (b.length : Int)) = false := by rw [hl]; simp
  rw [e1]
  simp only [cond_false]
  have h := c5h n a b hl hla a.length n (Nat.le_refl _) hn (by rw [List.drop_length]; rfl)
  rw [a2k (by omega) (by omega), h, cmpD_val ha.1 hb.1 hl]
 ·have e1 : ((a.length : Int) != (b.length : Int)) = true := by simp; omega
  rw [e1]
  simp only [cond_true, b6p, Option.bind_some]
  congr 1
  unfold sg
  rcases Nat.lt_or_ge a.length b.length with h | h
  ·have := val_lt_of_len ha.1 hb h
   rw [if_pos (by omega), if_pos (by omega)]
  ·have := val_lt_of_len hb.1 ha (by omega)
   rw [if_neg (by omega), if_pos (by omega), if_neg (by omega), if_pos (by omega)]
end Go.Proofs.YtknpjecpcmajiaaGreat.D

namespace Go.Proofs.YtknpjecpcmajiaaGreat.D
open Go Rt M
theorem d5x (n : Nat) (v u : List Int) (k : Nat) {vl ul lo zs : List Int} {v1 v2 t1 t0 u2 : Int} (hv : v = vl ++ [v2, v1]) (hu : u = lo ++ (ul ++ [u2, t0, t1]) ++ zs) (hlo : lo.length = k) (hul : ul.length = vl.length)
  (hlv : v.length < 1073741824) (hlu : u.length < 1073741824) (hvi : InR v) (hui : InR (ul ++ [u2, t0, t1])) (hv1 : 1 ≤ v1) (hlt : val (ul ++ [u2, t0, t1]) < 1048576 * val v) :
  ∀ (N : Nat) (g rest : Int), g.toNat = N → 0 ≤ g → 0 ≤ rest → g * v1 + rest = t1 * 1048576 + t0 → val (ul ++ [u2, t0, t1]) < (g + 1) * val v →
   ∃ g', 0 ≤ g' ∧ g' ≤ 1048576 ∧ val (ul ++ [u2, t0, t1]) < (g' + 1) * val v ∧ (g' - 1) * val v ≤ val (ul ++ [u2, t0, t1]) ∧ ∀ (kont : Int → Option (List Int × List Int)) m, N < m → a9u n v (k : Int) u kont m g rest = kont g' := by
 have hv2 : 0 ≤ v2 ∧ v2 < 1048576 := hvi v2 (by rw [hv]; simp)
 have hv1' : 0 ≤ v1 ∧ v1 < 1048576 := hvi v1 (by rw [hv]; simp)
 have ht1 : 0 ≤ t1 ∧ t1 < 1048576 := hui t1 (by simp)
 have ht0 : 0 ≤ t0 ∧ t0 < 1048576 := hui t0 (by simp)
 have hu2 : 0 ≤ u2 ∧ u2 < 1048576 := hui u2 (by simp)
 have hvl : InR vl := fun e he => hvi e (by rw [hv]; simp [he])
 have hull : InR ul := fun e he => hui e (by simp [he])
 have eV : val v = val vl + pw vl.length * (v2 + 1048576 * v1) := by rw [hv, val_append]; simp [val]
 have eU : val (ul ++ [u2, t0, t1]) = val ul + pw vl.length * (u2 + 1048576 * (t1 * 1048576 + t0)) := by
  rw [val_append, hul]
  simp only [val]
  have : t0 + 1048576 * (t1 + 1048576 * 0) = t1 * 1048576 + t0 := by omega
  rw [this]
 have hP := pw_pos vl.length
 have hvlP := val_lt hvl
 have hulP := val_lt hull
 rw [hul] at hulP
 have hvl0 := val_nonneg hvl
 have hul0 := val_nonneg hull
 have hlen : v.length = vl.length + 2 := by rw [hv]; simp
 have hlenu : u.length = k + vl.length + 3 + zs.length := by rw [hu]; simp [hlo, hul]; omega
 have i1 : isub .i64 (v.length : Int) 2 = ((vl.length : Nat) : Int) := by rw [a2k (by omega) (by omega)]; omega
 have i2 : isub .i64 (v.length : Int) 1 = ((vl.length + 1 : Nat) : Int) := by rw [a2k (by omega) (by omega)]; omega
 have i3 : isub .i64 (iadd .i64 (k : Int) (v.length : Int)) 2 = ((k + vl.length : Nat) : Int) := by rw [a4e (by omega) (by omega), a2k (by omega) (by omega)]; omega
 have r1 : ix v ((vl.length : Nat) : Int) = some v2 := by rw [hv]; exact a8w vl v2 [v1] rfl
 have r2 : ix v ((vl.length + 1 : Nat) : Int) = some v1 := by
  rw [hv, show vl ++ [v2, v1] = (vl ++ [v2]) ++ [v1] by simp]; exact a8w (vl ++ [v2]) v1 [] (by simp)
 have r3 : ix u ((k + vl.length : Nat) : Int) = some u2 := by
  rw [hu, show lo ++ (ul ++ [u2, t0, t1]) ++ zs = (lo ++ ul) ++ u2 :: ([t0, t1] ++ zs) by simp]
  exact a8w (lo ++ ul) u2 _ (by simp [hlo, hul])
 intro N
 induction N with
 | zero =>
  intro g rest hg h0 hr hT hq
  have hg0 : g = 0 := by omega
  subst hg0
  refine ⟨0, by decide, by decide, hq, ?_, fun kont m hm => ?_⟩
  ·have : 0 ≤ val v := val_nonneg hvi
   have := val_nonneg hui
   omega
  ·obtain ⟨m, rfl⟩ : ∃ m', m = m' + 1 := ⟨m - 1, by omega⟩
   rw [b2q]
   have e1 : decide ((1048576 : Int) ≤ 0) = false := by decide
   rw [e1]
   simp only [cond_false]
   by_cases hr2 : rest < 1048576
   ·have e2 : decide (rest < 1048576) = true := by simpa using hr2
    rw [e2, i1, r1, i3, r3, c0p (by omega) (by omega)]
    simp only [cond_true, Option.bind_some]
    rw [c0h hr (by omega) hu2.1 hu2.2, a8t (by omega) (by omega)]
    have e3 : decide (rest * 1048576 + u2 < 0 * v2) = false := by simp; omega
    rw [e3]; rfl
   ·have e2 : decide (rest < 1048576) = false := by simpa using hr2
    rw [e2]; rfl
 | succ N ih =>
  intro g rest hg h0 hr hT hq
  by_cases hbig : 1048576 ≤ g ∨ (rest < 1048576 ∧ rest * 1048576 + u2 < g * v2)
  ·have hq' : val (ul ++ [u2, t0, t1]) < (g - 1 + 1) * val v := by
    rw [show g - 1 + 1 = g by omega]
    rcases hbig with h | ⟨h1, h2⟩
    ·have : 1048576 * val v ≤ g * val v := Int.mul_le_mul_of_nonneg_right h (val_nonneg hvi)
     omega
    ·rw [eU, eV]
     exact c8q rfl hT hvl0 hulP h0 h2 hP
   have hT' : (g - 1) * v1 + (rest + v1) = t1 * 1048576 + t0 := by rw [← hT]; grind
   obtain ⟨g', a1, a2, a3, a4, a5⟩ := ih (g - 1) (rest + v1) (by omega) (by omega) (by omega) hT' hq'
   have hgv : 0 ≤ g * v1 := Int.mul_nonneg h0 (by omega)
   have hgle : g * 1 ≤ g * v1 := Int.mul_le_mul_of_nonneg_left hv1 h0
   refine ⟨g', a1, a2, a3, a4, fun kont m hm => ?_⟩
   obtain ⟨m, rfl⟩ : ∃ m', m = m' + 1 := ⟨m - 1, by omega⟩
   rw [b2q]
   have hflag : ((bif decide ((1048576 : Int) ≤ g) then some true else (bif decide (rest < 1048576) then (ix v (isub .i64 (v.length : Int) 2)).bind fun ex8 => (shl .i64 rest 20).bind fun q4 => (ix u (isub .i64 (iadd .i64 (k : Int) (v.length : Int)) 2)).bind fun ex9 => some (decide ((ior .i64 q4 ex9) < (imul .i64 g ex8))) else some false).bind fun v12 => some v12) : Option Bool) = some true := by
    by_cases hgB : 1048576 ≤ g
    ·rw [show decide ((1048576 : Int) ≤ g) = true by simpa using hgB]; rfl
    ·rcases hbig with h | ⟨h1, h2⟩
     ·exact absurd h hgB
     ·have hm1 := b6i (g := g) h0 hv2.1 hv2.2
      rw [show decide ((1048576 : Int) ≤ g) = false by simpa using hgB, show decide (rest < 1048576) = true by simpa using h1, i1, r1, i3, r3, c0p (by omega) (by omega)]
      simp only [cond_true, cond_false, Option.bind_some]
      rw [c0h hr (by omega) hu2.1 hu2.2, a8t (by omega) (by omega), show decide (rest * 1048576 + u2 < g * v2) = true by simpa using h2]
   rw [hflag]
   simp only [Option.bind_some, cond_true]
   rw [i2, r2]
   simp only [Option.bind_some]
   rw [a2k (by omega) (by omega), a4e (by omega) (by omega)]
   exact a5 kont m (by omega)
  ·have hgB : g < 1048576 := by omega
   have hsm : g * v2 ≤ rest * 1048576 + u2 := by
    by_cases h1 : rest < 1048576
    ·omega
    ·have hm1 := b6i (g := g) h0 hv2.1 hv2.2
     omega
   refine ⟨g, h0, by omega, hq, ?_, fun kont m hm => ?_⟩
   ·rw [eU, eV]
    exact d0u rfl hT hvl0 (by omega) hul0 (by omega) hsm hP hv1 hv2.1
   ·obtain ⟨m, rfl⟩ : ∃ m', m = m' + 1 := ⟨m - 1, by omega⟩
    rw [b2q]
    have hflag : ((bif decide ((1048576 : Int) ≤ g) then some true else (bif decide (rest < 1048576) then (ix v (isub .i64 (v.length : Int) 2)).bind fun ex8 => (shl .i64 rest 20).bind fun q4 => (ix u (isub .i64 (iadd .i64 (k : Int) (v.length : Int)) 2)).bind fun ex9 => some (decide ((ior .i64 q4 ex9) < (imul .i64 g ex8))) else some false).bind fun v12 => some v12) : Option Bool) = some false := by
     rw [show decide ((1048576 : Int) ≤ g) = false by simp; omega]
     by_cases h1 : rest < 1048576
     ·have hm1 := b6i (g := g) h0 hv2.1 hv2.2
      rw [show decide (rest < 1048576) = true by simpa using h1, i1, r1, i3, r3, c0p (by omega) (by omega)]
      simp only [cond_true, cond_false, Option.bind_some]
      rw [c0h hr (by omega) hu2.1 hu2.2, a8t (by omega) (by omega), show decide (rest * 1048576 + u2 < g * v2) = false by simp; omega]
     ·rw [show decide (rest < 1048576) = false by simpa using h1]; rfl
    rw [hflag]; rfl
theorem d7i {l : List Int} (h : 3 ≤ l.length) : ∃ ul a b c, l = ul ++ [a, b, c] := by
 refine ⟨l.take (l.length - 3), l[l.length - 3], l[l.length - 2], l[l.length - 1], ?_⟩
 have h1 : l.drop (l.length - 3) = [l[l.length - 3], l[l.length - 2], l[l.length - 1]] := by
  rw [List.drop_eq_getElem_cons (by omega), List.drop_eq_getElem_cons (by omega), List.drop_eq_getElem_cons (by omega), List.drop_eq_nil_of_le (by omega)]
  simp only [show l.length - 3 + 1 = l.length - 2 by omega, show l.length - 2 + 1 = l.length - 1 by omega]
 rw [← h1, List.take_append_drop]
theorem d7d {l : List Int} (h : 2 ≤ l.length) : ∃ ul a b, l = ul ++ [a, b] := by
 refine ⟨l.take (l.length - 2), l[l.length - 2], l[l.length - 1], ?_⟩
 have h1 : l.drop (l.length - 2) = [l[l.length - 2], l[l.length - 1]] := by
  rw [List.drop_eq_getElem_cons (by omega), List.drop_eq_getElem_cons (by omega), List.drop_eq_nil_of_le (by omega)]
  simp only [show l.length - 2 + 1 = l.length - 1 by omega]
 rw [← h1, List.take_append_drop]
theorem d1m {l : List Int} (h : 1 ≤ l.length) : ∃ ul a, l = ul ++ [a] :=
 ⟨l.take (l.length - 1), l[l.length - 1], by
  have h1 : l.drop (l.length - 1) = [l[l.length - 1]] := by
   rw [List.drop_eq_getElem_cons (by omega), List.drop_eq_nil_of_le (by omega)]
  rw [← h1, List.take_append_drop]⟩
theorem c5q {P Ul u2 T V1 V2 Vl g : Int} (hP : 0 < P) (hU : Ul < P) (hu : u2 < 1048576) (hV : 0 ≤ Vl) (h2 : 0 ≤ V2) (hg : T < (g + 1) * V1) (hg0 : 0 ≤ g) :
  Ul + P * (u2 + 1048576 * T) < (g + 1) * (Vl + P * (V2 + 1048576 * V1)) := by
 have e1 : P * u2 ≤ P * 1048575 := Int.mul_le_mul_of_nonneg_left (by omega) (by omega)
 have e2 : P * (T + 1) ≤ P * ((g + 1) * V1) := Int.mul_le_mul_of_nonneg_left (by omega) (by omega)
 have e3 : 0 ≤ (g + 1) * Vl := Int.mul_nonneg (by omega) hV
 have e4 : 0 ≤ (g + 1) * (P * V2) := Int.mul_nonneg (by omega) (Int.mul_nonneg (by omega) h2)
 have e5 : (g + 1) * (Vl + P * (V2 + 1048576 * V1)) = (g + 1) * Vl + (g + 1) * (P * V2) + 1048576 * (P * ((g + 1) * V1)) := by grind
 have e6 : Ul + P * (u2 + 1048576 * T) = Ul + P * u2 + 1048576 * (P * (T + 1)) - 1048576 * P := by grind
 omega
theorem d2w (n : Nat) (v : List Int) (kont : List Int → List Int → Option (List Int × List Int)) (hv : Canon v) (hl2 : 2 ≤ v.length) (hlv : v.length < 268435456) (hn : 4398046511104 < n) :
  ∀ (k : Nat) (lo w zs qd : List Int) (m : Nat), lo.length = k → w.length = v.length → InR lo → InR w → InR zs → val zs = 0 → val w < val v → k + v.length + zs.length < 1073741824 → k < m →
   ∃ uf, a8u n v kont m ((k : Int) - 1) (List.replicate k 0 ++ qd) (lo ++ (w ++ zs)) = kont ((a6w (val v) lo (val w)).1 ++ qd) uf ∧ InR uf ∧ uf.length = k + v.length + zs.length ∧ val uf = (a6w (val v) lo (val w)).2
 | 0, lo, w, zs, qd, m + 1, hlo, hw, hil, hiw, hiz, hz, hlt, hlen, hm => by
  have : lo = [] := List.eq_nil_of_length_eq_zero hlo
  subst this
  refine ⟨w ++ zs, ?_, hiw.append hiz, by simp [hw], ?_⟩
  ·rw [b4x]
   have e1 : decide ((0 : Int) ≤ ((0 : Nat) : Int) - 1) = false := by decide
   rw [e1]; simp [a6w]
  ·rw [val_append, hz]; simp [a6w]
 | k + 1, lo, w, zs, qd, m + 1, hlo, hw, hil, hiw, hiz, hz, hlt, hlen, hm => by
  obtain ⟨lo', d, rfl⟩ := d1m (l := lo) (by omega)
  obtain ⟨vl, v2, v1, hvd⟩ := d7d hl2
  obtain ⟨ul, u2, t0, t1, hwin⟩ := d7i (l := d :: w) (by simp; omega)
  have hlo' : lo'.length = k := by simpa using hlo
  have hid : 0 ≤ d ∧ d < 1048576 := hil d (by simp)
  have hiwin : InR (ul ++ [u2, t0, t1]) := by rw [← hwin]; exact InR.cons hid.1 hid.2 hiw
  have hv1 : 1 ≤ v1 ∧ v1 < 1048576 := by
   have h1 := hv.1 v1 (by rw [hvd]; simp)
   have h2 := hv.2
   rw [hvd] at h2
   have : v1 ≠ 0 := by simpa using h2
   omega
  have ht1 : 0 ≤ t1 ∧ t1 < 1048576 := hiwin t1 (by simp)
  have ht0 : 0 ≤ t0 ∧ t0 < 1048576 := hiwin t0 (by simp)
  have hu2 : 0 ≤ u2 ∧ u2 < 1048576 := hiwin u2 (by simp)
  have hv2 : 0 ≤ v2 ∧ v2 < 1048576 := hv.1 v2 (by rw [hvd]; simp)
  have hvll : v.length = vl.length + 2 := by rw [hvd]; simp
  have hull : ul.length = vl.length := by
   have := congrArg List.length hwin
   simp at this; omega
  have hV := val_nonneg hv.1
  have hU0 := val_nonneg hiwin
  have hUw : val (ul ++ [u2, t0, t1]) = d + 1048576 * val w := by rw [← hwin]; rfl
  have hw0 := val_nonneg hiw
  have hult : val (ul ++ [u2, t0, t1]) < 1048576 * val v := by omega
  have eV : val v = val vl + pw vl.length * (v2 + 1048576 * v1) := by rw [hvd, val_append]; simp [val]
  have eU : val (ul ++ [u2, t0, t1]) = val ul + pw vl.length * (u2 + 1048576 * (t1 * 1048576 + t0)) := by
   rw [val_append, hull]
   simp only [val]
   have : t0 + 1048576 * (t1 + 1048576 * 0) = t1 * 1048576 + t0 := by omega
   rw [this]
  obtain ⟨T, hT⟩ : ∃ T, T = t1 * 1048576 + t0 := ⟨_, rfl⟩
  have hT0 : 0 ≤ T := by omega
  have hT1 : T < 1099511627776 := by omega
  have hg0 : 0 ≤ T / v1 := Int.ediv_nonneg hT0 (by omega)
  have hgT : T / v1 ≤ T := Int.ediv_le_self v1 hT0
  have hr0 : 0 ≤ T % v1 := Int.emod_nonneg _ (by omega)
  have hr1 : T % v1 < v1 := Int.emod_lt_of_pos _ (by omega)
  have hsum : T / v1 * v1 + T % v1 = T := by have := Int.mul_ediv_add_emod T v1; rw [Int.mul_comm] at this; exact this
  have hq0 : val (ul ++ [u2, t0, t1]) < (T / v1 + 1) * val v := by
   rw [eU, eV, ← hT]
   have h1 := val_lt (l := ul) (fun e he => hiwin e (by simp [he]))
   rw [hull] at h1
   refine c5q (pw_pos _) h1 hu2.2 (val_nonneg (fun e he => hv.1 e (by rw [hvd]; simp [he]))) hv2.1 ?_ hg0
   rw [Int.add_mul, Int.one_mul]; omega
  obtain ⟨u, hu⟩ : ∃ u, u = lo' ++ (ul ++ [u2, t0, t1]) ++ zs := ⟨_, rfl⟩
  have hu' : lo' ++ [d] ++ (w ++ zs) = u := by rw [hu, ← hwin]; simp
  have hulen : u.length = k + v.length + 1 + zs.length := by rw [← hu']; simp [hlo', hw]; omega
  obtain ⟨g', a1, a2, a3, a4, a5⟩ := d5x n v u k hvd hu hlo' hull (by omega) (by omega) hv.1 hiwin hv1.1 hult (T / v1).toNat (T / v1) (T % v1) rfl hg0 hr0 (by rw [hsum, hT]) hq0
  obtain ⟨r, s1, s2, s3, s4⟩ := d2m (n := n) hiwin hv.1 (by simp; omega) (by simp; omega) a1 a2 (by omega) a3 a4 (by simp; omega)
  have hVpos : 0 < val v := by omega
  have hrlt : val r < val v := by rw [s4]; exact Int.emod_lt_of_pos _ hVpos
  obtain ⟨w'', z, hrw⟩ := d1m (l := r) (by rw [s3]; simp)
  have hw''l : w''.length = v.length := by
   have := congrArg List.length hrw
   rw [s3] at this
   simp at this; omega
  have hz0 : z = 0 := by
   have h1 := val_lt hv.1
   have h2 : 0 ≤ z ∧ z < 1048576 := s2 z (by rw [hrw]; simp)
   have h3 := val_nonneg (l := w'') (fun e he => s2 e (by rw [hrw]; simp [he]))
   rw [hrw, val_append, hw''l] at hrlt
   simp only [val, Int.mul_zero, Int.add_zero] at hrlt
   rcases (show z = 0 ∨ 1 ≤ z by omega) with h4 | h4
   ·exact h4
   ·have h5 : pw v.length * 1 ≤ pw v.length * z := Int.mul_le_mul_of_nonneg_left h4 (by have := pw_pos v.length; omega)
    omega
  subst hz0
  have hrval : val r = val w'' := by rw [hrw, val_append]; simp [val]
  have hiw'' : InR w'' := fun e he => s2 e (by rw [hrw]; simp [he])
  have hqi : InR [val (ul ++ [u2, t0, t1]) / val v] := InR.cons (Int.ediv_nonneg hU0 (by omega)) (Int.ediv_lt_of_lt_mul hVpos (by omega)) InR.nil
  obtain ⟨uf, b1, b2, b3, b4⟩ := d2w n v kont hv hl2 hlv hn k lo' w'' (0 :: zs) (val (ul ++ [u2, t0, t1]) / val v :: qd) m hlo' hw''l (fun e he => hil e (by simp [he])) hiw'' (InR.cons (by decide) (by decide) hiz) (by simp [val, hz]) (by omega) (by simp; omega) (by omega)
  refine ⟨uf, ?_, b2, by rw [b3]; simp; omega, ?_⟩
  ·rw [b4x, hu']
   have e0 : ((k + 1 : Nat) : Int) - 1 = (k : Int) := by omega
   have e1 : decide ((0 : Int) ≤ (k : Int)) = true := by simp
   have i1 : iadd .i64 (k : Int) (v.length : Int) = ((k + v.length : Nat) : Int) := by rw [a4e (by omega) (by omega)]; omega
   have i2 : isub .i64 ((k + v.length : Nat) : Int) 1 = ((k + vl.length + 1 : Nat) : Int) := by rw [a2k (by omega) (by omega)]; omega
   have i3 : isub .i64 (v.length : Int) 1 = ((vl.length + 1 : Nat) : Int) := by rw [a2k (by omega) (by omega)]; omega
   have r1 : ix u ((k + v.length : Nat) : Int) = some t1 := by
    rw [hu, show lo' ++ (ul ++ [u2, t0, t1]) ++ zs = (lo' ++ (ul ++ [u2, t0])) ++ t1 :: zs by simp]
    exact a8w _ t1 _ (by simp [hlo', hull]; omega)
   have r2 : ix u ((k + vl.length + 1 : Nat) : Int) = some t0 := by
    rw [hu, show lo' ++ (ul ++ [u2, t0, t1]) ++ zs = (lo' ++ (ul ++ [u2])) ++ t0 :: (t1 :: zs) by simp]
    exact a8w _ t0 _ (by simp [hlo', hull]; omega)
   have r3 : ix v ((vl.length + 1 : Nat) : Int) = some v1 := by
    rw [hvd, show vl ++ [v2, v1] = (vl ++ [v2]) ++ [v1] by simp]; exact a8w (vl ++ [v2]) v1 [] (by simp)
   rw [e0, e1, i1, r1, cond_true, Option.bind_some, c0p (by omega) (by omega), Option.bind_some, i2, r2, Option.bind_some, i3, r3, Option.bind_some, c0h ht1.1 (by omega) ht0.1 ht0.2, ← hT, b9x hT0 (by omega) (by omega), Option.bind_some, Option.bind_some, b9t hT0 (by omega), Option.bind_some]
   rw [a5 _ n (by omega)]
   have i4 : iadd .i64 ((k + v.length : Nat) : Int) 1 = ((k + v.length + 1 : Nat) : Int) := inc64 (by omega)
   have r4 : lsl u (k : Int) ((k + v.length + 1 : Nat) : Int) = some (ul ++ [u2, t0, t1]) := by
    rw [c7h (by omega) (by omega), hu]
    congr 1
    rw [List.take_append_of_le_length (by simp [hlo', hull]; omega), List.take_of_length_le (by simp [hlo', hull]; omega), ← hlo', List.drop_left]
   rw [i4, r4, Option.bind_some, s1, Option.bind_some, List.replicate_succ', List.append_assoc, List.singleton_append, a8w _ 0 _ (by simp), Option.bind_some, b0d _ 0 _ _ (by simp), Option.bind_some, a2k (by omega) (by omega)]
   have r5 : lput u (k : Int) r ((k + v.length + 1 : Nat) : Int) = lo' ++ (w'' ++ 0 :: zs) := by
    have hX : (lo' ++ (ul ++ [u2, t0, t1])).length = k + v.length + 1 := by simp [hlo', hull]; omega
    have d1 : u.drop (k + v.length + 1) = zs := by rw [hu, ← hX]; exact List.drop_left
    have d2 : u.take k = lo' := by rw [hu, List.append_assoc, ← hlo']; exact List.take_left
    unfold lput
    rw [Int.toNat_natCast, Int.toNat_natCast, d1, d2, hrw]
    simp
   rw [r5, b1]
   congr 1
   rw [b4q]
   simp only [a6w]
   have e2 : val w * 1048576 + d = val (ul ++ [u2, t0, t1]) := by omega
   rw [e2, ← s4, hrval]
   simp
  ·rw [b4, b4q]
   simp only [a6w]
   have e2 : val w * 1048576 + d = val (ul ++ [u2, t0, t1]) := by omega
   rw [e2, ← s4, hrval]
 | _, _, _, _, _, 0, _, _, _, _, _, _, _, _, h => by omega
theorem d5v (b : List Int) (hl : 1 ≤ b.length) (hlb : b.length < 1073741824) {top : Int} (htop : ix b ((b.length - 1 : Nat) : Int) = some top) (h1 : 1 ≤ top) (h2 : top < 1048576) :
  ∀ (N j : Nat), j + N = 19 → ∃ s' : Int, 1 ≤ s' ∧ s' ≤ 524288 ∧ ∀ (n : Nat) (kont : Int → Option (List Int × List Int)) m, N < m → b0u n b kont m ((2 ^ j : Nat) : Int) = kont s' := by
 have i1 : isub .i64 (b.length : Int) 1 = ((b.length - 1 : Nat) : Int) := by rw [a2k (by omega) (by omega)]; omega
 have htm : ∀ s : Int, 1 ≤ s → s ≤ 524288 → 0 ≤ top * s ∧ top * s ≤ 549755813888 := fun s a1 a2 =>
  ⟨Int.mul_nonneg (by omega) (by omega), by have := Int.mul_le_mul (show top ≤ 1048576 by omega) a2 (by omega) (by omega); omega⟩
 have hpow : ∀ j : Nat, j ≤ 19 → 1 ≤ ((2 ^ j : Nat) : Int) ∧ ((2 ^ j : Nat) : Int) ≤ 524288 := fun j hj => by
  have h1 := Nat.pow_le_pow_right (n := 2) (by decide) hj
  have h2 := Nat.pow_pos (n := j) (show 0 < 2 by decide)
  have h3 : 2 ^ 19 = 524288 := by decide
  omega
 intro N
 induction N with
 | zero =>
  intro j hj
  obtain rfl : j = 19 := by omega
  have hp := hpow 19 (by omega)
  refine ⟨((2 ^ 19 : Nat) : Int), hp.1, hp.2, fun n kont m hm => ?_⟩
  obtain ⟨m, rfl⟩ : ∃ m', m = m' + 1 := ⟨m - 1, by omega⟩
  have := htm _ hp.1 hp.2
  have hs : ((2 ^ 19 : Nat) : Int) = 524288 := by decide
  have e1 : decide (top * ((2 ^ 19 : Nat) : Int) < 524288) = false := by
   rw [hs, decide_eq_false_iff_not]
   omega
  rw [b2s, i1, htop, Option.bind_some, a8t (by omega) (by omega), e1, cond_false]
 | succ N ih =>
  intro j hj
  have hp := hpow j (by omega)
  have hp2 := hpow (j + 1) (by omega)
  have hm0 := htm _ hp.1 hp.2
  have hdbl : ((2 ^ j : Nat) : Int) * 2 = ((2 ^ (j + 1) : Nat) : Int) := by rw [Nat.pow_succ]; omega
  by_cases h : top * ((2 ^ j : Nat) : Int) < 524288
  ·obtain ⟨s', a1, a2, a3⟩ := ih (j + 1) (by omega)
   refine ⟨s', a1, a2, fun n kont m hm => ?_⟩
   obtain ⟨m, rfl⟩ : ∃ m', m = m' + 1 := ⟨m - 1, by omega⟩
   rw [b2s, i1, htop, Option.bind_some, a8t (by omega) (by omega), show decide (top * ((2 ^ j : Nat) : Int) < 524288) = true by simpa using h, cond_true, a8t (by omega) (by omega), hdbl]
   exact a3 n kont m (by omega)
  ·refine ⟨_, hp.1, hp.2, fun n kont m hm => ?_⟩
   obtain ⟨m, rfl⟩ : ∃ m', m = m' + 1 := ⟨m - 1, by omega⟩
   rw [b2s, i1, htop, Option.bind_some, a8t (by omega) (by omega), show decide (top * ((2 ^ j : Nat) : Int) < 524288) = false by rw [decide_eq_false_iff_not]; exact h, cond_false]
theorem c3r {a b s : Nat} (hs : 0 < s) : a * s / (b * s) = a / b ∧ a * s % (b * s) = a % b * s := ⟨Nat.mul_div_mul_right _ _ hs, Nat.mul_mod_mul_right _ _ _⟩
theorem d3c {x y : Nat} (hy : y ≠ 0) (hlx : (dig x).length < 16777216) (hly : (dig y).length < 16777216) : Ev (fun n => b4s n (dig x) (dig y)) (dig (x / y), dig (x % y)) := by
 unfold b4s
 refine Ev.bind (a := sg ((x : Int) - y)) ⟨(dig x).length + 1, fun n hn => ?_⟩ ?_
 ·have := c4v (n := n) (b1h x) (b1h y) (by omega) (by omega)
  rw [a2u, a2u] at this; exact this
 by_cases hlt : x < y
 ·refine Ev.then (by simp [sg]; omega) ?_
  refine Ev.bind (b3p (by omega)) ?_
  rw [Nat.div_eq_of_lt hlt, Nat.mod_eq_of_lt hlt, dig_zero]
  exact Ev.pure _
 refine Ev.else (by simp [sg]; split <;> (try split) <;> omega) ?_
 have hyl : 1 ≤ (dig y).length := by
  have := b6c hy
  cases h : dig y with
  | nil => exact absurd h this
  | cons => simp
 by_cases h1 : (dig y).length = 1
 ·refine Ev.then (by simp [h1]) ?_
  obtain ⟨d, hd⟩ : ∃ d, dig y = [d] := List.length_eq_one_iff.1 h1
  have hdy : d = y := by have := a2u y; rw [hd] at this; simpa [val] using this
  have hd1 : 0 ≤ d ∧ d < 1048576 := a3l y d (by rw [hd]; simp)
  refine Ev.step (a := d) (by rw [hd]; rfl) ?_
  refine Ev.bind (d2o (a3l x) (by omega) (by omega) (by omega)) ?_
  have hm : 0 ≤ (x : Int) % y ∧ (x : Int) % y < 1048576 := ⟨Int.emod_nonneg _ (by omega), by have := Int.emod_lt_of_pos (x : Int) (show (0 : Int) < y by omega); omega⟩
  refine Ev.bind (d0e (InR.cons (by rw [a2u, hdy]; exact hm.1) (by rw [a2u, hdy]; exact hm.2) InR.nil) (by simp)) ?_
  refine (Ev.pure _).eq ?_
  simp only [a2u, hdy, val, Int.mul_zero, Int.add_zero]
  rw [← Int.natCast_ediv, ← Int.natCast_emod, Int.toNat_natCast, Int.toNat_natCast]
 refine Ev.else (by simp; omega) ?_
 obtain ⟨pl, top, hpt⟩ := d1m (l := dig y) hyl
 have htop : ix (dig y) (((dig y).length - 1 : Nat) : Int) = some top := by
  have : ∀ l : List Int, l = pl ++ [top] → ix l ((l.length - 1 : Nat) : Int) = some top := fun l hl => by subst hl; exact a8w pl top [] (by simp)
  exact this _ hpt
 have ht1 : 0 ≤ top ∧ top < 1048576 := a3l y top (by rw [hpt]; simp)
 have ht2 : top ≠ 0 := by have := b7m y; rw [hpt] at this; simpa using this
 obtain ⟨s, hs1, hs2, hL1⟩ := d5v (dig y) hyl (by omega) htop (by omega) ht1.2 19 0 rfl
 rw [show ((2 ^ 0 : Nat) : Int) = 1 from rfl] at hL1
 refine Ev.from 20 (fun n hn => hL1 n _ n (by omega)) ?_
 obtain ⟨S, rfl⟩ := Int.eq_ofNat_of_zero_le (show 0 ≤ s by omega)
 have hS : 0 < S := by omega
 have hSi : InR [(S : Int)] := InR.cons (by omega) (by omega) InR.nil
 have hmul : ∀ z : Nat, (val (dig z) * val [(S : Int)]).toNat = z * S := fun z => by
  rw [a2u]; simp only [val, Int.mul_zero, Int.add_zero]
  rw [← Int.natCast_mul, Int.toNat_natCast]
 have m1 := c9s (a3l x) hSi (by omega) (by simp)
 have m2 := c9s (a3l y) hSi (by omega) (by simp)
 rw [hmul] at m1 m2
 have hxS : x ≤ x * S := Nat.le_mul_of_pos_right _ hS
 have hyS : y ≤ y * S := Nat.le_mul_of_pos_right _ hS
 have hxy : y * S ≤ x * S := Nat.mul_le_mul_right _ (by omega)
 have l1 := a5r hxS
 have l2 := a5r hyS
 have l3 := a5r hxy
 have l4 : (dig (x * S)).length ≤ (dig x).length + 1 := by
  have h := b9j [(S : Int)] (dig x) [0] rfl
  have h2 := b7x (c6r hSi (dig x) [0] (a3l x) (InR.rep 1))
  rw [c3a [(S : Int)] (dig x) [0] rfl, show val [(0 : Int)] = 0 from rfl, Int.zero_add, hmul, h] at h2
  simpa using h2
 refine Ev.bind m1 ?_
 refine Ev.step (a := dig (x * S) ++ [0]) (b6z (by simp; omega)) ?_
 refine Ev.bind m2 ?_
 refine Ev.step (a := dig (x * S) ++ [0]) (by
  have : (((dig (x * S) ++ [(0 : Int)]).length : Int) == ((dig x).length : Int)) = false := by simp; omega
  rw [this, cond_false]) ?_
 obtain ⟨k, hk⟩ : ∃ k, (dig (x * S)).length + 1 = (dig (y * S)).length + k := ⟨(dig (x * S)).length + 1 - (dig (y * S)).length, by omega⟩
 have hk1 : 1 ≤ k := by omega
 have hkle : k ≤ (dig (x * S)).length := by omega
 refine Ev.step (a := List.replicate k 0) (by
  rw [a2k (by simp; omega) (by simp; omega), show (((dig (x * S) ++ [(0 : Int)]).length : Int) - ((dig (y * S)).length : Int)) = (k : Int) by simp; omega]
  exact c2q (by omega)) ?_
 have hyS0 : y * S ≠ 0 := by omega
 obtain ⟨pl', top', hpt'⟩ := d1m (l := dig (y * S)) (by omega)
 have htop' : 1 ≤ top' := by
  have h1 := a3l (y * S) top' (by rw [hpt']; simp)
  have h2 := b7m (y * S)
  rw [hpt'] at h2
  have : top' ≠ 0 := by simpa using h2
  omega
 have hVge : pw ((dig (y * S)).length - 1) ≤ val (dig (y * S)) := by
  have h0 : (dig (y * S)).length - 1 = pl'.length := by rw [hpt']; simp
  rw [h0, hpt', val_append]
  have h1 := val_nonneg (l := pl') (fun e he => a3l (y * S) e (by rw [hpt']; simp [he]))
  have h2 : pw pl'.length * 1 ≤ pw pl'.length * top' := Int.mul_le_mul_of_nonneg_left htop' (by have := pw_pos pl'.length; omega)
  simp only [val, Int.mul_zero, Int.add_zero]
  omega
 have hw : (dig (x * S) ++ [(0 : Int)]).drop k = (dig (x * S)).drop k ++ [0] := List.drop_append_of_le_length hkle
 have hwlt : val ((dig (x * S) ++ [(0 : Int)]).drop k) < val (dig (y * S)) := by
  rw [hw, val_append]
  have h1 := val_lt ((a3l (x * S)).drop k)
  have h2 : ((dig (x * S)).drop k).length = (dig (y * S)).length - 1 := by simp; omega
  rw [h2] at h1
  simp only [val, Int.mul_zero, Int.add_zero]
  omega
 have hui : InR (dig (x * S) ++ [(0 : Int)]) := (a3l _).append (InR.cons (by decide) (by decide) InR.nil)
 refine ⟨4398046511105 + k + (dig (x * S)).length, fun n hn => ?_⟩
 obtain ⟨uf, r1, r2, r3, r4⟩ := d2w n (dig (y * S)) (fun (l6 : List Int) (l7 : List Int) => (a3x n l7).bind fun v7 => (a8z n v7 (S : Int)).bind fun v8 => (a3x n l6).bind fun v9 => some (v9, v8.1)) (b1h _) (by omega) (by omega) (by omega)
  k ((dig (x * S) ++ [(0 : Int)]).take k) ((dig (x * S) ++ [(0 : Int)]).drop k) [] [] n (by simp; omega) (by simp; omega) (hui.take k) (hui.drop k) InR.nil rfl hwlt (by simp; omega) (by omega)
 simp only [List.append_nil, List.take_append_drop] at r1
 have hV : (0 : Int) < val (dig (y * S)) := by rw [a2u]; omega
 have h0 := val_nonneg (hui.drop k)
 have q1 := c0b (V := val (dig (y * S))) ((dig (x * S) ++ [(0 : Int)]).take k) (val ((dig (x * S) ++ [(0 : Int)]).drop k))
 have q2 := b7q hV ((dig (x * S) ++ [(0 : Int)]).take k) _ h0 hwlt
 have q3 := c3c hV ((dig (x * S) ++ [(0 : Int)]).take k) _ (hui.take k) h0 hwlt
 have q4 := b7n (val (dig (y * S))) ((dig (x * S) ++ [(0 : Int)]).take k) (val ((dig (x * S) ++ [(0 : Int)]).drop k))
 rw [b6q, List.take_append_drop] at q1
 have q5 : val (dig (x * S) ++ [(0 : Int)]) = ((x * S : Nat) : Int) := by rw [val_append, a2u]; simp [val]
 rw [q5] at q1
 have hVy : val (dig (y * S)) = ((y * S : Nat) : Int) := a2u _
 rw [hVy] at q1 q2 q3 q4 r1 r4
 obtain ⟨g1, g2⟩ := c3m (U := ((x * S : Nat) : Int)) (V := ((y * S : Nat) : Int)) (q := val (a6w ((y * S : Nat) : Int) ((dig (x * S) ++ [(0 : Int)]).take k) (val ((dig (x * S) ++ [(0 : Int)]).drop k))).1) (by omega) (by omega) (by rw [Int.add_mul, Int.one_mul]; omega)
 obtain ⟨n1, n2⟩ := c3r (a := x) (b := y) hS
 have e1 : val uf = ((x % y * S : Nat) : Int) := by
  rw [r4, ← n2, Int.natCast_emod]; omega
 have e2 : val (a6w ((y * S : Nat) : Int) ((dig (x * S) ++ [(0 : Int)]).take k) (val ((dig (x * S) ++ [(0 : Int)]).drop k))).1 = ((x / y : Nat) : Int) := by
  rw [← g1, ← n1, Int.natCast_ediv]
 have hul : uf.length < n := by rw [r3]; simp; omega
 have hlu : uf.length < 1073741824 := by rw [r3]; simp; omega
 have hdl := b7x r2
 rw [e1, Int.toNat_natCast] at hdl
 dsimp only
 rw [List.length_replicate, a2k (by omega) (by omega), r1, c0c r2 (by omega) hul, e1, Int.toNat_natCast, Option.bind_some,
  d1i (a3l _) (by omega) (by omega) (by omega) (n := n) (by omega), Option.bind_some,
  c0c q3 (by rw [q4]; simp; omega) (by rw [q4]; simp; omega), Option.bind_some, e2, Int.toNat_natCast, a2u]
 have e3 : ((x % y * S : Nat) : Int) / (S : Int) = ((x % y : Nat) : Int) := by
  rw [← Int.natCast_ediv, Nat.mul_div_cancel _ hS]
 rw [e3, Int.toNat_natCast]
end Go.Proofs.YtknpjecpcmajiaaGreat.D

namespace Go.Proofs.YtknpjecpcmajiaaGreat.D
open Go Rt M
def toB (x : Int) : Big := ⟨sg x, dig x.natAbs⟩
def Sm (k : Nat) (x : Int) : Prop := (x.natAbs : Int) < pw k
theorem a2h (x : Int) : (x < 0 ∧ sg x = -1) ∨ (x = 0 ∧ sg x = 0) ∨ (0 < x ∧ sg x = 1) := by
 unfold sg; split
 ·exact .inl ⟨by assumption, rfl⟩
 ·split
  ·exact .inr (.inr ⟨by assumption, rfl⟩)
  ·exact .inr (.inl ⟨by omega, rfl⟩)
theorem a4v {x : Int} (h : 0 < x) : sg x = 1 := by rcases a2h x with h1 | h1 | h1 <;> omega
theorem a5b {x : Int} (h : x < 0) : sg x = -1 := by rcases a2h x with h1 | h1 | h1 <;> omega
theorem b6b (x y : Int) : sg (x * y) = sg x * sg y := by
 rcases a2h x with ⟨h1, h2⟩ | ⟨h1, h2⟩ | ⟨h1, h2⟩ <;> rcases a2h y with ⟨h3, h4⟩ | ⟨h3, h4⟩ | ⟨h3, h4⟩ <;> rw [h2, h4]
 ·exact a4v (Int.mul_pos_of_neg_of_neg h1 h3)
 ·subst h3; rw [Int.mul_zero]; decide
 ·exact a5b (Int.mul_neg_of_neg_of_pos h1 h3)
 ·subst h1; rw [Int.zero_mul]; decide
 ·subst h1; rw [Int.zero_mul]; decide
 ·subst h1; rw [Int.zero_mul]; decide
 ·exact a5b (Int.mul_neg_of_pos_of_neg h1 h3)
 ·subst h3; rw [Int.mul_zero]; decide
 ·exact a4v (Int.mul_pos h1 h3)
theorem b9y (x : Int) : sg x * (x.natAbs : Int) = x := by
 rcases a2h x with ⟨h1, h2⟩ | ⟨h1, h2⟩ | ⟨h1, h2⟩ <;> rw [h2] <;> omega
theorem b9m (x : Int) : -1 ≤ sg x ∧ sg x ≤ 1 := by rcases a2h x with h | h | h <;> omega
theorem c7e (a : Nat) : ∀ b, pw (a + b) = pw a * pw b
 | 0 => by simp [pw]
 | b + 1 => by rw [← Nat.add_assoc]; simp only [pw, c7e a b]; grind
theorem a2s {k : Nat} {x : Int} (h : Sm k x) : (dig x.natAbs).length ≤ k := by
 rcases Nat.lt_or_ge k (dig x.natAbs).length with h1 | h1
 ·exfalso
  have h2 : val (List.replicate k (1048575 : Int)) < val (dig x.natAbs) := val_lt_of_len (fun e he => by rw [(List.mem_replicate.1 he).2]; decide) (b1h _) (by simpa using h1)
  have h3 : ∀ k, val (List.replicate k (1048575 : Int)) = pw k - 1 := by
   intro k
   induction k with
   | zero => rfl
   | succ k ih => rw [List.replicate_succ]; simp only [val, pw, ih]; omega
  rw [h3, a2u] at h2
  unfold Sm at h
  omega
 ·exact h1
theorem a9b {k : Nat} {x : Int} (h : (dig x.natAbs).length ≤ k) : Sm k x := by
 have h1 := val_lt (a3l x.natAbs)
 rw [a2u] at h1
 exact Int.lt_of_lt_of_le h1 (pw_mono h)
theorem Sm.mono {k l : Nat} {x : Int} (h : Sm k x) (hkl : k ≤ l) : Sm l x := Int.lt_of_lt_of_le h (pw_mono hkl)
theorem Sm.add {k : Nat} {x y : Int} (h : Sm k x) (h2 : Sm k y) : Sm (k + 1) (x + y) := by
 unfold Sm at *; simp only [pw]; omega
theorem Sm.neg {k : Nat} {x : Int} (h : Sm k x) : Sm k (-x) := by unfold Sm at *; omega
theorem Sm.sub {k : Nat} {x y : Int} (h : Sm k x) (h2 : Sm k y) : Sm (k + 1) (x - y) := by rw [Int.sub_eq_add_neg]; exact h.add h2.neg
theorem Sm.mul {k l : Nat} {x y : Int} (h : Sm k x) (h2 : Sm l y) : Sm (k + l) (x * y) := by
 unfold Sm at *
 rw [c7e, Int.natAbs_mul, Int.natCast_mul]
 have h3 : (x.natAbs : Int) * y.natAbs ≤ x.natAbs * pw l := Int.mul_le_mul_of_nonneg_left (by omega) (by omega)
 have h4 : (x.natAbs : Int) * pw l < pw k * pw l := Int.mul_lt_mul_of_pos_right h (pw_pos l)
 omega
theorem Sm.le {k : Nat} {x y : Int} (h : Sm k x) (h2 : y.natAbs ≤ x.natAbs) : Sm k y := by unfold Sm at *; omega
def okd (d : Int) : Bool := decide (0 ≤ d) && decide (d < 1048576)
def a9z (a : Big) : Bool := a.Digits.all okd && (if a.Digits = [] then a.Sign == 0 else (a.Sign == 1 || a.Sign == -1) && (a.Digits.getLast?.getD 0 != 0))
theorem d1h (n : Nat) (a : Big) (kont : Option Bool) (hl : a.Digits.length < 1099511627776) : ∀ (us : List Int) (i m : Nat), a.Digits.drop i = us → us.length < m → a8d n a kont m (i : Int) = bif us.all okd then kont else some false
 | [], i, m + 1, hd, _ => by
  rw [b3c]
  have := drop_nil hd
  rw [show decide ((i : Int) < (a.Digits.length : Int)) = false by simp; omega]; rfl
 | x :: xs, i, m + 1, hd, hm => by
  rw [b3c]
  obtain ⟨f1, f2, f3⟩ := drop_cons hd
  rw [show decide ((i : Int) < (a.Digits.length : Int)) = true by simp; omega, cond_true, f1, Option.bind_some]
  have e1 : ((bif decide (x < 0) then some true else some (decide (1048575 < x))) : Option Bool) = some (!okd x) := by
   unfold okd
   by_cases h : x < 0
   ·rw [show decide (x < 0) = true by simpa using h, show decide (0 ≤ x) = false by simp; omega]; rfl
   ·rw [show decide (x < 0) = false by simpa using h, show decide (0 ≤ x) = true by simp; omega, cond_false]
    by_cases h2 : x < 1048576
    ·rw [show decide (1048575 < x) = false by simp; omega, show decide (x < 1048576) = true by simpa using h2]; rfl
    ·rw [show decide (1048575 < x) = true by simp; omega, show decide (x < 1048576) = false by simpa using h2]; rfl
  rw [e1, Option.bind_some, List.all_cons]
  cases h : okd x with
  | false => rfl
  | true =>
   rw [inc64 (by omega), d1h n a kont hl xs (i + 1) m f2 (by simpa using hm)]; rfl
 | _, _, 0, _, h => by omega
theorem d3n {a : Big} (hl : a.Digits.length < 1099511627776) {n : Nat} (hn : a.Digits.length < n) : a4d n a = some (a9z a) := by
 unfold a4d
 have h := fun kont => d1h n a kont hl a.Digits 0 n rfl hn
 rw [show ((0 : Nat) : Int) = 0 from rfl] at h
 rw [h]
 unfold a9z
 cases ha : a.Digits.all okd with
 | false => rfl
 | true =>
  rw [cond_true, Bool.true_and]
  rcases List.eq_nil_or_concat a.Digits with h0 | ⟨p, d, h0⟩
  ·rw [h0]; rfl
  ·rw [List.concat_eq_append] at h0
   have hne : a.Digits ≠ [] := by rw [h0]; simp
   have e1 : ((a.Digits.length : Int) == 0) = false := by rw [h0]; simp; omega
   have e2 : isub .i64 (a.Digits.length : Int) 1 = (p.length : Int) := by rw [a2k (by omega) (by omega), h0]; simp
   have e3 : ix a.Digits (p.length : Int) = some d := by rw [h0]; exact a8w p d [] rfl
   rw [e1, cond_false, if_neg hne, e2, e3]
   have e4 : a.Digits.getLast?.getD 0 = d := by rw [h0]; simp
   rw [e4]
   cases h1 : (a.Sign == 1) <;> cases h2 : (a.Sign == -1) <;> rfl
theorem c3h {a : Big} (hl : a.Digits.length < 1099511627776) : Ev (fun n => a4d n a) (a9z a) := ⟨a.Digits.length + 1, fun _ hn => d3n hl hn⟩
theorem b5w (x : Int) : a9z (toB x) = true := by
 unfold a9z toB
 have h1 : (dig x.natAbs).all okd = true := by
  rw [List.all_eq_true]
  intro d hd
  have := a3l _ d hd
  unfold okd; simp; omega
 simp only [h1, Bool.true_and]
 by_cases h : x = 0
 ·subst h; rw [show (0 : Int).natAbs = 0 from rfl, dig_zero]; rfl
 ·rw [if_neg (b6c (by omega))]
  have h2 : (dig x.natAbs).getLast?.getD 0 ≠ 0 := by
   have h3 := b7m x.natAbs
   cases h4 : (dig x.natAbs).getLast? with
   | none => rw [List.getLast?_eq_none_iff] at h4; exact absurd h4 (b6c (by omega))
   | some d => rw [h4] at h3; simpa using h3
  rcases a2h x with ⟨_, h5⟩ | ⟨h6, _⟩ | ⟨_, h5⟩
  ·rw [h5]; simpa using h2
  ·exact absurd h6 h
  ·rw [h5]; simpa using h2
theorem a9v {a : Big} (h : a9z a = true) : ∃ x, a = toB x := by
 obtain ⟨s, l⟩ := a
 unfold a9z at h
 simp only [Bool.and_eq_true, List.all_eq_true] at h
 obtain ⟨h1, h2⟩ := h
 have hi : InR l := fun d hd => by have := h1 d hd; unfold okd at this; simpa using this
 by_cases hl : l = []
 ·subst hl
  simp only [if_true, beq_iff_eq] at h2
  subst h2
  exact ⟨0, by unfold toB; rw [show (0 : Int).natAbs = 0 from rfl, dig_zero]; rfl⟩
 ·simp only [if_neg hl, Bool.and_eq_true, Bool.or_eq_true, beq_iff_eq, bne_iff_ne] at h2
  have hc : Canon l := by
   refine ⟨hi, fun h3 => ?_⟩
   rw [h3] at h2; exact h2.2 rfl
  have hv := val_nonneg hi
  have hv0 : val l ≠ 0 := fun e => by have := dig_val hc; rw [e, Int.toNat_zero, dig_zero] at this; exact hl this.symm
  have hd := dig_val hc
  rcases h2.1 with h3 | h3
  ·refine ⟨val l, ?_⟩
   unfold toB
   rw [a4v (by omega), h3, show (val l).natAbs = (val l).toNat by omega, hd]
  ·refine ⟨-val l, ?_⟩
   unfold toB
   rw [a5b (by omega), h3, show (-val l).natAbs = (val l).toNat by omega, hd]
theorem c5z {x y : Int} (h : toB x = toB y) : x = y := by
 unfold toB at h
 simp only [Big.mk.injEq] at h
 have := d4t h.2
 have h1 := b9y x
 have h2 := b9y y
 rw [h.1, this] at h1
 omega
theorem toB_zero : toB 0 = ⟨0, []⟩ := by unfold toB; rw [show (0 : Int).natAbs = 0 from rfl, dig_zero]; rfl
theorem a6j {x : Int} {k : Nat} (h : Sm k x) (hk : k < 1099511627776) : Ev (fun n => a4d n (toB x)) true := by
 have := c3h (a := toB x) (by have := a2s h; simp only [toB]; omega)
 rwa [b5w] at this
theorem a7w (s : Int) {v : Nat} (h : (dig v).length < 1099511627776) : Ev (fun n => a3u n s (dig v)) (if v = 0 then ⟨0, []⟩ else ⟨s, dig v⟩) := by
 unfold a3u
 have h1 := d0e (a3l v) h
 rw [a2u, Int.toNat_natCast] at h1
 refine Ev.bind h1 ?_
 by_cases hv : v = 0
 ·rw [if_pos hv]
  refine Ev.then (by rw [hv, dig_zero]; rfl) (Ev.pure _)
 ·rw [if_neg hv]
  refine Ev.else ?_ (Ev.pure _)
  have := b6c hv
  cases hd : dig v with
  | nil => exact absurd hd this
  | cons a l => simp; omega
theorem a6b {s : Int} {v : Nat} (z : Int) (hz : z.natAbs = v) (hs : v ≠ 0 → s = sg z) : (if v = 0 then (⟨0, []⟩ : Big) else ⟨s, dig v⟩) = toB z := by
 by_cases hv : v = 0
 ·rw [if_pos hv]
  have : z = 0 := by omega
  rw [this, toB_zero]
 ·rw [if_neg hv, hs hv]; unfold toB; rw [hz]
theorem c2s {x : Int} {k : Nat} (h : Sm k x) (hk : k < 1073741824) : Ev (fun n => b2z n (toB x)) (toB (-x)) := by
 unfold b2z
 have hl := a2s h
 refine Ev.bind (a6j h (by omega)) ?_
 refine Ev.else rfl ?_
 refine Ev.bind (b3p (a := (toB x).Digits) (by simp only [toB]; omega)) ?_
 have hr := b9m x
 refine Ev.bind (a7w (IntKind.i64.wrap (0 - (toB x).Sign)) (v := x.natAbs) (by omega)) ?_
 refine (Ev.pure _).eq ?_
 rw [a6b (-x) (by omega) (fun hv => by
  show IntKind.i64.wrap (0 - sg x) = _
  rw [a6n (by omega) (by omega)]
  rcases a2h x with ⟨h1, h2⟩ | ⟨h1, h2⟩ | ⟨h1, h2⟩
  ·rw [h2, a4v (by omega)]; rfl
  ·omega
  ·rw [h2, a5b (by omega)]; rfl)]
theorem Or_n (n : Nat) (x y : Int) (hn : 2 < n) : b3k n [x, y] = some (if x ≠ 0 then x else y) := by
 obtain ⟨n, rfl⟩ : ∃ k, n = k + 3 := ⟨n - 3, by omega⟩
 have h0 : ix [x, y] 0 = some x := rfl
 have h1 : ix [x, y] 1 = some y := rfl
 have a1 : iadd .i64 0 1 = 1 := by decide
 have a2 : iadd .i64 1 1 = 2 := by decide
 unfold b3k
 rw [b0g, show decide ((0 : Int) < (([x, y] : List Int).length : Int)) = true by rfl, cond_true, h0, Option.bind_some]
 by_cases hx : x = 0
 ·rw [show (x != 0) = false by simpa using hx, cond_false, a1, b0g, show decide ((1 : Int) < (([x, y] : List Int).length : Int)) = true by rfl, cond_true, h1, Option.bind_some, if_neg (by simpa using hx)]
  by_cases hy : y = 0
  ·rw [show (y != 0) = false by simpa using hy, cond_false, a2, b0g, show decide ((2 : Int) < (([x, y] : List Int).length : Int)) = false by rfl, cond_false, hy]
  ·rw [show (y != 0) = true by simpa using hy, cond_true]
 ·rw [show (x != 0) = true by simpa using hx, cond_true, if_pos hx]
theorem c9k (u v : Nat) (hu : (dig u).length < 1073741824) (hv : (dig v).length < 1073741824) : Ev (fun n => b6t n (dig u) (dig v)) (dig (u + v)) := by
 have := d6f (a3l u) (a3l v) hu hv
 rwa [a2u, a2u, show ((u : Int) + v).toNat = u + v by omega] at this
theorem c5w (u v : Nat) (hu : (dig u).length < 1073741824) (hvu : v ≤ u) : Ev (fun n => b5j n (dig u) (dig v)) (dig (u - v)) := by
 have := d5p (a3l u) (a3l v) hu (a5r hvu) (by rw [a2u, a2u]; omega)
 rwa [a2u, a2u, show ((u : Int) - v).toNat = u - v by omega] at this
theorem d3q (u v : Nat) (hu : (dig u).length < 536870912) (hv : (dig v).length < 536870912) : Ev (fun n => b3d n (dig u) (dig v)) (dig (u * v)) := by
 have := c9s (a3l u) (a3l v) hu hv
 rwa [a2u, a2u, ← Int.natCast_mul, Int.toNat_natCast] at this
theorem c0i (u v : Nat) (hu : (dig u).length < 1073741824) : Ev (fun n => a7q n (dig u) (dig v)) (sg ((u : Int) - v)) := ⟨(dig u).length + 1, fun n hn => by
 have := c4v (n := n) (b1h u) (b1h v) (by omega) (by omega)
 rwa [a2u, a2u] at this⟩
theorem b1l (n : Nat) (c : Big) : a5l n true c = some (c, 0) := rfl
theorem b4w (x y : Int) : imul .i64 (sg x) (sg y) = sg (x * y) := by
 rw [b6b]
 have h1 := b9m x
 have h2 := b9m y
 refine a8t ?_ ?_ <;> rcases a2h x with ⟨_, h⟩ | ⟨_, h⟩ | ⟨_, h⟩ <;> rw [h] <;> omega
theorem d6g {x y : Int} {k : Nat} (hx : Sm k x) (hy : Sm k y) (hk : k < 536870912) : Ev (fun n => c0g n (toB x) (toB y)) (toB (x + y), 0) := by
 have lx := a2s hx
 have ly := a2s hy
 have lxy := a2s (hx.add hy)
 unfold c0g
 refine Ev.bind (a6j hx (by omega)) ?_
 refine Ev.bind (a := false) (Ev.else rfl (Ev.bind (a6j hy (by omega)) (Ev.pure _))) ?_
 refine Ev.else rfl ?_
 show Ev (fun n => bif decide (0 ≤ imul .i64 (sg x) (sg y)) then _ else _) _
 rw [b4w]
 by_cases hs : 0 ≤ sg (x * y)
 ·refine Ev.then (by simpa using hs) ?_
  refine Ev.bind (a := if sg x ≠ 0 then sg x else sg y) ⟨3, fun n hn => Or_n n _ _ (by omega)⟩ ?_
  refine Ev.bind (c9k x.natAbs y.natAbs (by omega) (by omega)) ?_
  have hab : x.natAbs + y.natAbs = (x + y).natAbs := by
   rw [b6b] at hs
   rcases a2h x with ⟨h1, h2⟩ | ⟨h1, h2⟩ | ⟨h1, h2⟩ <;> rcases a2h y with ⟨h3, h4⟩ | ⟨h3, h4⟩ | ⟨h3, h4⟩ <;> rw [h2, h4] at hs <;> omega
  rw [hab]
  refine Ev.bind (a7w _ (by omega)) ?_
  rw [a6b (x + y) rfl (fun hv => by
   rw [b6b] at hs
   rcases a2h x with ⟨h1, h2⟩ | ⟨h1, h2⟩ | ⟨h1, h2⟩ <;> rcases a2h y with ⟨h3, h4⟩ | ⟨h3, h4⟩ | ⟨h3, h4⟩ <;> rw [h2, h4] at hs ⊢ <;>
    first
     | omega
     | (rw [a5b (by omega)]; decide)
     | (rw [a4v (by omega)]; decide))]
  exact Ev.step (b1l 0 _) (Ev.pure _)
 ·refine Ev.else (by simpa using hs) ?_
  have hne : x ≠ 0 ∧ y ≠ 0 := by
   constructor
   ·intro h; subst h; rw [Int.zero_mul] at hs; exact hs (by decide)
   ·intro h; subst h; rw [Int.mul_zero] at hs; exact hs (by decide)
  have hop : sg x = -sg y := by
   rw [b6b] at hs
   rcases a2h x with ⟨h1, h2⟩ | ⟨h1, h2⟩ | ⟨h1, h2⟩ <;> rcases a2h y with ⟨h3, h4⟩ | ⟨h3, h4⟩ | ⟨h3, h4⟩ <;> rw [h2, h4] at hs ⊢ <;> omega
  refine Ev.bind (c0i x.natAbs y.natAbs (by omega)) ?_
  by_cases hlt : x.natAbs < y.natAbs
  ·refine Ev.then (by rw [a5b (by omega)]; rfl) ?_
   refine Ev.bind (c5w y.natAbs x.natAbs (by omega) (by omega)) ?_
   rw [show y.natAbs - x.natAbs = (x + y).natAbs by
    rcases a2h x with ⟨h1, h2⟩ | ⟨h1, h2⟩ | ⟨h1, h2⟩ <;> rcases a2h y with ⟨h3, h4⟩ | ⟨h3, h4⟩ | ⟨h3, h4⟩ <;> omega]
   refine Ev.bind (a7w _ (by omega)) ?_
   rw [a6b (x + y) rfl (fun hv => by
    show sg y = _
    rcases a2h y with ⟨h3, h4⟩ | ⟨h3, h4⟩ | ⟨h3, h4⟩
    ·rw [h4, a5b (by omega)]
    ·omega
    ·rw [h4, a4v (by omega)])]
   exact Ev.step (b1l 0 _) (Ev.pure _)
  ·refine Ev.else (by
    rcases a2h ((x.natAbs : Int) - y.natAbs) with h | h | h
    ·omega
    ·rw [h.2]; rfl
    ·rw [h.2]; rfl) ?_
   refine Ev.bind (c5w x.natAbs y.natAbs (by omega) (by omega)) ?_
   rw [show x.natAbs - y.natAbs = (x + y).natAbs by
    rcases a2h x with ⟨h1, h2⟩ | ⟨h1, h2⟩ | ⟨h1, h2⟩ <;> rcases a2h y with ⟨h3, h4⟩ | ⟨h3, h4⟩ | ⟨h3, h4⟩ <;> omega]
   refine Ev.bind (a7w _ (by omega)) ?_
   rw [a6b (x + y) rfl (fun hv => by
    show sg x = _
    rcases a2h x with ⟨h3, h4⟩ | ⟨h3, h4⟩ | ⟨h3, h4⟩
    ·rw [h4, a5b (by omega)]
    ·omega
    ·rw [h4, a4v (by omega)])]
   exact Ev.step (b1l 0 _) (Ev.pure _)
theorem d6t {x y : Int} {k : Nat} (hx : Sm k x) (hy : Sm k y) (hk : k < 268435456) : Ev (fun n => b9s n (toB x) (toB y)) (toB (x * y), 0) := by
 have lx := a2s hx
 have ly := a2s hy
 have lxy := a2s (hx.mul hy)
 unfold b9s
 refine Ev.bind (a6j hx (by omega)) ?_
 refine Ev.bind (a := false) (Ev.else rfl (Ev.bind (a6j hy (by omega)) (Ev.pure _))) ?_
 refine Ev.else rfl ?_
 refine Ev.bind (d3q x.natAbs y.natAbs (by omega) (by omega)) ?_
 rw [← Int.natAbs_mul]
 refine Ev.bind (a7w (imul .i64 (sg x) (sg y)) (by omega)) ?_
 rw [a6b (x * y) rfl (fun _ => b4w x y)]
 exact Ev.step (b1l 0 _) (Ev.pure _)
end Go.Proofs.YtknpjecpcmajiaaGreat.D

