/- Several texts in one, for FeeTells.said: what the theorem leans on. -/
import Derived.Test.YtknpjecpcmajiaaGreatRows
import Derived.Test.YtknpjecpcmajiaaGreatPt4
set_option maxHeartbeats 1000000
set_option maxRecDepth 1000000
namespace Go.Proofs.YtknpjecpcmajiaaGreat.M
open Go Go.RowKit Rt
def b8k (_n : Nat) (nx1 : Int) (high1 : Int) : Option Bool :=
 (bif decide (0 ≤ nx1) then
  some (decide (nx1 ≤ high1))
 else
  some false).bind fun v1 =>
 some v1
theorem b9r (n : Nat) (nx1 : Int) (high1 : Int) (r : Bool) (hm : b8k n nx1 high1 = some r) {w : World}  :
  Calls Tryz.prog 63 #[.int .i64 nx1, .int .i64 high1] w fun e w' => e = .returned (.bool r) ∧ w' = w := by
 unfold b8k at hm
 refine a1a 12 Tryz.func63 Y Y Y (a0h (a0a (a0b Y Y Y (a0g (a0c (a0h (a0a (a0d Y Y Y (a0u Y Y Y Y Y (a0d Y Y Y ?_))))))))))
 obtain ⟨v1, g, hm⟩ := Yb hm
 refine a1z 4 (fun a w' => w = w' ∧ Has 12 a [(11, .bool v1)]) ?_ ?_
 rintro a j ⟨rfl, i⟩
 refine a0z i (a0b Y Y Y (a0g (a0c (a1d (a1j Y Y ?_)))))
 obtain rfl := Yo hm
 exact ⟨Y, Y⟩
 clear hm
 rcases a0f g with ⟨h, g⟩ | ⟨h, g⟩
 refine a1g 7 Y h (a0d Y Y Y (a0d Y Y Y (a0u Y Y Y Y Y (a0n Y Y Y Y (a0g (a0o (fun a ha => ?_)))))))
 cases g
 exact ⟨Y, ha.cut (l := [11]) Y⟩
 refine a1g 7 Y h (a0t Y (by decide) Y (a0t Y (by decide) Y (a0t Y (by decide) Y (a0k Y Y Y Y (a0g (a0o (fun a ha => ?_)))))))
 cases g
 exact ⟨Y, ha.cut (l := [11]) Y⟩
theorem ent63 : Ent Tryz.prog 63 := fun _ _ => by kernel_rfl
def a9i (n : Nat) (k1 : Int) : Option Bool :=
 (b8k n k1 200).bind fun v1 =>
 some (!v1)
theorem c1m (n : Nat) (k1 : Int) (r : Bool) (hm : a9i n k1 = some r) {w : World}  :
  Calls Tryz.prog 62 #[.int .i64 k1] w fun e w' => e = .returned (.bool r) ∧ w' = w := by
 unfold a9i at hm
 refine a1a 6 Tryz.func62 Y Y Y (a0h (a0a (a0b Y Y Y (a0g (a0c (a0h (a0a (a0d Y Y Y ?_))))))))
 obtain ⟨v1, g, hm⟩ := Yb hm
 refine a3c ent63 Y Y Y Y (b9r _ _ _ _ g) (a3d Y Y Y (a0b Y Y Y (a0g (a0c (a1d (a1j Y Y ?_))))))
 obtain rfl := Yo hm
 exact ⟨Y, Y⟩
theorem ent15 : Ent Tryz.prog 15 := fun _ _ => by kernel_rfl
def a9g (n : Nat) (wx1 : Frac) : Option Bool :=
 (a3w n wx1).bind fun v1 =>
 (bif !v1 then
  some true
 else
  (b3i n wx1).bind fun v3 =>
  some (decide (v3 < 0))).bind fun v2 =>
 some v2
theorem c1x (n : Nat) (g : Frac) (r : Bool) (hm : a9g n g = some r) {w : World} {F : Frz} (hs : Sat F w) {m o : Option Addr} {p q s t : Nat} (z : SlR (Rp.int .i64) F m p q g.P.Digits) (G : SlR (Rp.int .i64) F o s t g.Q.Digits) :
  Calls Tryz.prog 64 #[.agg #[.int .i64 g.P.Sign, .slice m p q, .int .i64 g.Q.Sign, .slice o s t]] w fun e w' => ∃ v F' O', e = .returned v ∧ HS F w [] F' O' w' ∧ (v = .bool r ∧ O' = []) := by
 unfold a9g at hm
 have h := HS.init hs
 refine a1a 11 Tryz.func64 Y Y Y (a0h (a0a (a2i Y Y Y Y h ?_)))
 intro b1 T u
 refine a0b Y Y Y (a0g (a0c (a0h (a0a (a0m ag37 sz37 Y Y u Y (i := 0) Y Y ?_)))))
 obtain ⟨v1, J, hm⟩ := Yb hm
 refine a0i ent14 Y Y Y Y u (a3s _ _ _ J u.sat z G) ?_
 rintro _ K _ U H k ⟨rfl, rfl⟩
 refine a3d Y Y Y (a0d Y Y Y ?_)
 obtain ⟨v2, j, hm⟩ := Yb hm
 refine a1z 4 (fun a w' => ∃ (x : Frz), Frz.le K x ∧ HS F w [] x [.box b1 37 [.int .i64 g.P.Sign, .slice m p q, .int .i64 g.Q.Sign, .slice o s t]] w' ∧ Has 11 a [(10, .bool v2)]) ?_ ?_
 rintro a V ⟨x, Z, L, I⟩
 refine a0z I (a0b Y Y Y (a0g (a0c (a1d (a1j Y Y ?_)))))
 obtain rfl := Yo hm
 exact ⟨_, _, _, Y, L.Yp [] Y Y, Y, Y⟩
 clear hm
 rcases a0f j with ⟨y, j⟩ | ⟨y, j⟩
 refine a1g 6 Y y (a0t Y (by decide) Y (a0t Y (by decide) Y (a0t Y (by decide) Y (a0n Y Y Y Y (a0g (a0o (fun a ha => ?_)))))))
 cases j
 exact ⟨_, Yf, k.Yp [0] Y Y, ha.cut (l := [10]) Y⟩
 refine a1g 6 Y y (a0m ag37 sz37 Y Y k Y (i := 0) Y Y ?_)
 obtain ⟨v3, M, j⟩ := Yb j
 refine a0i ent15 Y Y Y Y k (b8i _ _ _ M k.sat (z.mono H) (G.mono H)) ?_
 rintro _ g0 _ g1 N R ⟨rfl, rfl⟩
 refine a0u Y Y Y Y Y (a0k Y Y Y Y (a0g (a0o (fun a ha => ?_))))
 cases j
 exact ⟨_, N, R.Yp [0] Y Y, ha.cut (l := [10]) Y⟩
theorem u31 : Tryz.prog.underlying 31 = some (.slice 37) := by kernel_rfl
def a1w (n : Nat) (s1 : (List Frac)) (f1 : (Frac → Option Bool)) (kont1 : Option Int) : Nat → Int → Option Int
 | 0, _ => none
 | mx1 + 1, i1 =>
  bif decide (i1 < (s1.length : Int)) then
   (ix s1 i1).bind fun ex1 =>
   (f1 ex1).bind fun v1 =>
   bif v1 then
    some i1
   else
    a1w n s1 f1 kont1 mx1 (iadd .i64 i1 1)
  else
   kont1
theorem a3f (n : Nat) (s1 : (List Frac)) (f1 : (Frac → Option Bool)) (kont1 : Option Int) (mx1 : Nat) (i1 : Int) : a1w n s1 f1 kont1 (mx1 + 1) i1 =
  bif decide (i1 < (s1.length : Int)) then
   (ix s1 i1).bind fun ex1 =>
   (f1 ex1).bind fun v1 =>
   bif v1 then
    some i1
   else
    a1w n s1 f1 kont1 mx1 (iadd .i64 i1 1)
  else
   kont1 := rfl
def a3n (n : Nat) (s1 : (List Frac)) (f1 : (Frac → Option Bool)) : Option Int :=
 a1w n s1 f1 (
  some (-1)) n 0
theorem a8x (n : Nat) (s1 : (List Frac)) (f1 : (Frac → Option Bool)) (r : Int) (hm : a3n n s1 f1 = some r) {w : World} {F : Frz} (hs : Sat F w) {i : Option Addr} {j : Nat} {k : Nat} {fvf1 : Value} (x : SlR rp_Frac F i j k s1) (hpff1 : GFn Tryz.prog F fvf1 (fun F l v => ∃ (q0 : Frac) (a0_0 : Option Addr) (n0_0 : Nat) (c0_0 : Nat) (a0_1 : Option Addr) (n0_1 : Nat) (c0_1 : Nat) (b : Bool), l = [.agg #[.int .i64 q0.P.Sign, .slice a0_0 n0_0 c0_0, .int .i64 q0.Q.Sign, .slice a0_1 n0_1 c0_1]] ∧ SlR (Rp.int .i64) F a0_0 n0_0 c0_0 q0.P.Digits ∧ SlR (Rp.int .i64) F a0_1 n0_1 c0_1 q0.Q.Digits ∧ v = some (.bool b) ∧ f1 q0 = some b)) :
  Calls Tryz.prog 104 #[.slice i j k, fvf1] w fun e w' => ∃ v F' O', e = .returned v ∧ HS F w [] F' O' w' ∧ (v = .int .i64 r ∧ O' = []) := by
 unfold a3n at hm
 have h := HS.init hs
 refine a1a 19 Tryz.func104 Y Y Y (a0h (a0a (a0b Y Y Y (a0g (a0c (a0h (a0h (a0a (a0d Y Y Y (a1x x.len u31 Y Y Y (a0d Y Y Y (a0g (a0c (a1i ?_))))))))))))))
 intro a G
 obtain ⟨kont1, hkont1⟩ : ∃ kont1 : Option Int, kont1 = ( some (-1)) := ⟨_, Y⟩
 replace hm : (fun m (s : Int) => a1w n s1 f1 kont1 m s) n 0 = some r := by rw [hkont1]; exact hm
 refine a5p (id := 0) (fun m (s : Int) => a1w n s1 f1 kont1 m s) (fun (y : Unit) => kont1) r (fun (s : Int) a w' => ∃ (o : Frz), Frz.le F o ∧ HS F w [] o [] w' ∧ Has 19 a [(0, .slice i j k), (1, fvf1), (7, .int .i64 (s1.length : Int)), (8, .int .i64 s)]) (fun (y : Unit) a w' => ∃ (p : Frz), Frz.le F p ∧ HS F w [] p [] w' ∧ Has 19 a []) (fun _ => Y) ?_ ?_ hm ⟨_, Yf, h.Yp [] Y Y, G.cut (l := [0, 1, 7, 8]) Y⟩
 clear hm; rintro _u a g0 hm ⟨p, g1, J, H⟩
 rw [hkont1] at hm
 refine a2g (e := .exit 0) H (a1k (a0c (a0h (a0a (a0b Y Y Y (a0g (a0c (a1d (a1j Y Y ?_)))))))))
 obtain rfl := Yo hm
 exact ⟨_, _, _, Y, J.Yp [] Y Y, Y, Y⟩
 clear hm hkont1; intro hk1 mx1 K ihx1
 rintro i1 a g2 hm ⟨o, g, q, I⟩
 simp only [a3f] at hm
 refine a1n I (a0h (a0a (a0u Y Y Y Y Y (a0g (a0c (a0h ?_))))))
 rcases a0f hm with ⟨t, hm⟩ | ⟨t, hm⟩
 refine a0r 9 Y t (a0y Y (a1c (a0c (a0h (a1i (a0h (a0a (a0d Y Y Y (a0b Y Y Y (a0g (a0c (a0h (a0a (a0d Y Y Y (a0d Y Y Y (a0d Y Y Y ?_))))))))))))))))
 obtain ⟨ex1, L, hm⟩ := Yb hm
 refine a2e (r := rp_Frac) u31 sz37 Y Y Y Y (x.mono g) L ?_
 intro b1 o1 g3 M N
 obtain ⟨g4, g5, g6, g7, g8, g9, R, T, U⟩ := N
 subst R
 refine a4g ag37 sz37 Y Y q M Y Y ?_
 obtain ⟨v1, V, hm⟩ := Yb hm
 refine c3b (hpff1.mono g) Y Y Y Y q ⟨_, _, _, _, _, _, _, _, Y, T, U, Y, V⟩ ?_
 intro ga gb Z z
 refine a0g (a0c ?_)
 rcases a0f hm with ⟨u, hm⟩ | ⟨u, hm⟩
 refine a0r 16 Y u (a0y Y (a0h (a0a (a0d Y Y Y (a0b Y Y Y (a0g (a0c (a1d (a0v (a0j (a0j (a0v (a0j (a1j Y Y ?_))))))))))))))
 obtain rfl := Yo hm
 exact ⟨_, _, _, Y, z.Yp [] Y Y, Y, Y⟩
 refine a0r 16 Y u (a0q Y (a1c (a1q (a0c (a0a (a0u Y Y Y Y Y (a0d Y Y Y (a0g (a0o (fun a ha => ihx1 (iadd .i64 i1 1) a _ hm ?_))))))))))
 exact ⟨_, (g.trans Z), z.Yp [] Y Y, ha.cut (l := [0, 1, 7, 8]) Y⟩
 refine a0r 9 Y t (a0q Y (a3p (a0x (a0x (fun a ha => hk1 () a _ hm ?_)))))
 exact ⟨_, g, q.Yp [] Y Y, ha.cut (l := []) Y⟩
theorem ent104 : Ent Tryz.prog 104 := fun _ _ => by kernel_rfl
def a2v (n : Nat) (s1 : (List Frac)) (f1 : (Frac → Option Bool)) : Option Bool :=
 (a3n n s1 f1).bind fun v1 =>
 some (decide (0 ≤ v1))
theorem a7p (n : Nat) (s1 : (List Frac)) (f1 : (Frac → Option Bool)) (r : Bool) (hm : a2v n s1 f1 = some r) {w : World} {F : Frz} (hs : Sat F w) {g : Option Addr} {i : Nat} {j : Nat} {fvf1 : Value} (k : SlR rp_Frac F g i j s1) (hpff1 : GFn Tryz.prog F fvf1 (fun F l v => ∃ (q0 : Frac) (a0_0 : Option Addr) (n0_0 : Nat) (c0_0 : Nat) (a0_1 : Option Addr) (n0_1 : Nat) (c0_1 : Nat) (b : Bool), l = [.agg #[.int .i64 q0.P.Sign, .slice a0_0 n0_0 c0_0, .int .i64 q0.Q.Sign, .slice a0_1 n0_1 c0_1]] ∧ SlR (Rp.int .i64) F a0_0 n0_0 c0_0 q0.P.Digits ∧ SlR (Rp.int .i64) F a0_1 n0_1 c0_1 q0.Q.Digits ∧ v = some (.bool b) ∧ f1 q0 = some b)) :
  Calls Tryz.prog 66 #[.slice g i j, fvf1] w fun e w' => ∃ v F' O', e = .returned v ∧ HS F w [] F' O' w' ∧ (v = .bool r ∧ O' = []) := by
 unfold a2v at hm
 have h := HS.init hs
 refine a1a 9 Tryz.func66 Y Y Y (a0h (a0a (a0b Y Y Y (a0g (a0c (a0h (a0a (a0d Y Y Y (a0d Y Y Y ?_)))))))))
 obtain ⟨v1, m, hm⟩ := Yb hm
 refine a0i ent104 Y Y Y Y h (a8x _ _ _ _ m h.sat k hpff1) ?_
 rintro _ p _ q s o ⟨rfl, rfl⟩
 refine a0u Y Y Y Y Y (a0b Y Y Y (a0g (a0c (a1d (a1j Y Y ?_)))))
 obtain rfl := Yo hm
 exact ⟨_, _, _, Y, o.Yp [] Y Y, Y, Y⟩
structure Facts where
 Lifts : (List Int)
 Persons : Int
 Flats : Int
 deriving DecidableEq, Inhabited
def rp_Facts : Rp Facts where
 k := 3
 R := fun F cs x => ∃ (a0 : Option Addr) (n0 : Nat) (c0 : Nat), cs = [.slice a0 n0 c0, .int .i64 x.Persons, .int .i64 x.Flats] ∧ SlR (Rp.int .i64) F a0 n0 c0 x.Lifts
 len := by rintro F cs x ⟨a0, n0, c0, h, _⟩; simp [h]
 mono := by rintro F F' cs x hF ⟨a0, n0, c0, h, h0⟩; exact ⟨a0, n0, c0, h, h0.mono hF⟩
 one := by rintro F cs x ⟨a0, n0, c0, h, _⟩ u hu; subst h; simp at hu; rcases hu with rfl | rfl | rfl <;> rfl
theorem fa30_0 : a6u Tryz.prog 30 0 0 := fun _ _ _ => by kernel_rfl
theorem ent64 : Ent Tryz.prog 64 := fun _ _ => by kernel_rfl
theorem ent66 : Ent Tryz.prog 66 := fun _ _ => by kernel_rfl
theorem ent62 : Ent Tryz.prog 62 := fun _ _ => by kernel_rfl
theorem fa30_2 : a6u Tryz.prog 30 2 2 := fun _ _ _ => by kernel_rfl
theorem fa30_1 : a6u Tryz.prog 30 1 1 := fun _ _ _ => by kernel_rfl
def b5a (n : Nat) (f1 : Facts) (weights1 : (List Frac)) (nx1 : Int) : Option Bool :=
 (bif (f1.Lifts.length : Int) == nx1 then
  some ((weights1.length : Int) == nx1)
 else
  some false).bind fun v1 =>
 (bif v1 then
  (b8k n f1.Persons 1000).bind fun v9 =>
  some v9
 else
  some false).bind fun v2 =>
 (bif v2 then
  (b8k n f1.Flats 1000).bind fun v8 =>
  some v8
 else
  some false).bind fun v3 =>
 (bif v3 then
  (a3k n f1.Lifts (a9i n)).bind fun v7 =>
  some (!v7)
 else
  some false).bind fun v4 =>
 (bif v4 then
  (a2v n weights1 (a9g n)).bind fun v6 =>
  some (!v6)
 else
  some false).bind fun v5 =>
 some v5
theorem c4h (n : Nat) (f1 : Facts) (weights1 : (List Frac)) (nx1 : Int) (r : Bool) (hm : b5a n f1 weights1 nx1 = some r) {w : World} {F : Frz} (hs : Sat F w) {x p : Option Addr} {y z q s : Nat} (R : SlR (Rp.int .i64) F x y z f1.Lifts) (T : SlR rp_Frac F p q s weights1) :
  Calls Tryz.prog 33 #[.agg #[.slice x y z, .int .i64 f1.Persons, .int .i64 f1.Flats], .slice p q s, .int .i64 nx1] w fun e w' => ∃ v F' O', e = .returned v ∧ HS F w [] F' O' w' ∧ (v = .bool r ∧ O' = []) := by
 unfold b5a at hm
 have h := HS.init hs
 refine a1a 43 Tryz.func33 Y Y Y (a0h (a0a (a2i Y Y Y Y h ?_)))
 intro b1 H g
 refine a0b Y Y Y (a0g (a0c (a0h (a0a (a0b Y Y Y (a0g (a0c (a0h (a0a (a0b Y Y Y (a0g (a0c (a0h (a0a (a0e fa30_0 Y Y Y (a0p ag28 Y Y g Y (i := 0) Y Y (a1x R.len u28 Y Y Y (a0d Y Y Y (a0u Y Y Y Y Y (a0d Y Y Y ?_))))))))))))))))))))
 obtain ⟨v1, t, hm⟩ := Yb hm
 refine a1z 5 (fun a w' => H = w' ∧ Has 43 a [(1, .slice p q s), (3, .pointer (some ⟨b1, 0, none⟩)), (7, .func (.func 62) #[] #[]), (8, .func (.func 64) #[] #[]), (19, .bool v1)]) ?_ ?_
 ·rintro a gc ⟨rfl, U⟩
  refine a0z U (a0d Y Y Y ?_)
  obtain ⟨v2, j, hm⟩ := Yb hm
  refine a1z 4 (fun a w' => H = w' ∧ Has 43 a [(1, .slice p q s), (3, .pointer (some ⟨b1, 0, none⟩)), (7, .func (.func 62) #[] #[]), (8, .func (.func 64) #[] #[]), (24, .bool v2)]) ?_ ?_
  ·rintro a gd ⟨rfl, V⟩
   refine a0z V (a0d Y Y Y ?_)
   obtain ⟨v3, k, hm⟩ := Yb hm
   refine a1z 4 (fun a w' => H = w' ∧ Has 43 a [(1, .slice p q s), (3, .pointer (some ⟨b1, 0, none⟩)), (7, .func (.func 62) #[] #[]), (8, .func (.func 64) #[] #[]), (29, .bool v3)]) ?_ ?_
   ·rintro a ge ⟨rfl, Z⟩
    refine a0z Z (a0d Y Y Y ?_)
    obtain ⟨v4, m, hm⟩ := Yb hm
    refine a1z 6 (fun a w' => ∃ (G : Frz), Frz.le F G ∧ HS F w [] G [.box b1 30 [.slice x y z, .int .i64 f1.Persons, .int .i64 f1.Flats]] w' ∧ Has 43 a [(1, .slice p q s), (8, .func (.func 64) #[] #[]), (36, .bool v4)]) ?_ ?_
    ·rintro a gf ⟨G, g2, I, g0⟩
     refine a0z g0 (a0d Y Y Y ?_)
     obtain ⟨v5, o, hm⟩ := Yb hm
     refine a1z 5 (fun a w' => ∃ (J : Frz), Frz.le G J ∧ HS F w [] J [.box b1 30 [.slice x y z, .int .i64 f1.Persons, .int .i64 f1.Flats]] w' ∧ Has 43 a [(42, .bool v5)]) ?_ ?_
     ·rintro a gg ⟨J, gh, g3, g1⟩
      refine a0z g1 (a0b Y Y Y (a0g (a0c (a1d (a1j Y Y ?_)))))
      obtain rfl := Yo hm
      exact ⟨_, _, _, Y, g3.Yp [] Y Y, Y, Y⟩
     ·clear hm
      rcases a0f o with ⟨K, o⟩ | ⟨K, o⟩
      ·refine a1g 37 rfl K ?_
       refine a0d Y Y Y (a0d Y Y Y ?_)
       obtain ⟨v6, g4, o⟩ := Yb o
       refine a0i ent66 Y Y Y Y I (a7p _ _ _ _ g4 I.sat (T.mono g2) (show GFn Tryz.prog _ (.func (.func 64) #[] #[]) (fun F l v => ∃ (q0 : Frac) (a0_0 : Option Addr) (n0_0 : Nat) (c0_0 : Nat) (a0_1 : Option Addr) (n0_1 : Nat) (c0_1 : Nat) (b : Bool), l = [.agg #[.int .i64 q0.P.Sign, .slice a0_0 n0_0 c0_0, .int .i64 q0.Q.Sign, .slice a0_1 n0_1 c0_1]] ∧ SlR (Rp.int .i64) F a0_0 n0_0 c0_0 q0.P.Digits ∧ SlR (Rp.int .i64) F a0_1 n0_1 c0_1 q0.Q.Digits ∧ v = some (.bool b) ∧ (a9g n) q0 = some b) from ⟨64, #[], Y, ent64, fun F' hF' args r w hsat h => by
                               obtain ⟨q0, a0_0, n0_0, c0_0, a0_1, n0_1, c0_1, b, rfl, hs0_0, hs0_1, hv, hb⟩ := h
                               obtain rfl := Yo hv
                               exact (c1x n q0 _ hb hsat hs0_0 hs0_1).mono (by rintro _ _ ⟨v, F2, O', h1, h2, rfl, rfl⟩; exact ⟨_, F2, _, h1, h2, rfl, rfl⟩)⟩)) ?_
       rintro _ gi _ gj g5 g6 ⟨rfl, rfl⟩
       refine a3d Y Y Y (a0n Y Y Y Y (a0g (a0o (fun a ha => ?_))))
       cases o
       exact ⟨_, g5, g6.Yp [0] Y Y, ha.cut (l := [42]) Y⟩
      ·refine a1g 37 rfl K ?_
       refine a0t Y (by decide) Y (a0t Y (by decide) Y (a0t Y (by decide) Y (a0t Y (by decide) Y (a0k Y Y Y Y (a0g (a0o (fun a ha => ?_)))))))
       cases o
       exact ⟨_, Yf, I.Yp [0] Y Y, ha.cut (l := [42]) Y⟩
    ·clear hm
     rcases a0f m with ⟨L, m⟩ | ⟨L, m⟩
     ·refine a1g 30 rfl L ?_
      refine a0e fa30_0 Y Y Y (a0p ag28 Y Y g Y (i := 0) Y Y (a0d Y Y Y ?_))
      obtain ⟨v7, g7, m⟩ := Yb m
      refine a0i ent65 Y Y Y Y g (a6x _ _ _ _ g7 g.sat R (show GFn Tryz.prog _ (.func (.func 62) #[] #[]) (fun _ l v => ∃ (q0 : Int) (b : Bool), l = [.int .i64 q0] ∧ v = some (.bool b) ∧ (a9i n) q0 = some b) from ⟨62, #[], Y, ent62, fun F' hF' args r w hsat h => by
                               obtain ⟨q0, b, rfl, hv, hb⟩ := h
                               obtain rfl := Yo hv
                               exact (c1m n q0 _ hb).mono (by rintro _ _ ⟨rfl, rfl⟩; exact ⟨_, F', [], rfl, HS.init hsat, rfl, rfl⟩)⟩)) ?_
      rintro _ gk _ gl g8 g9 ⟨rfl, rfl⟩
      refine a3d Y Y Y (a0n Y Y Y Y (a0g (a0o (fun a ha => ?_))))
      cases m
      exact ⟨_, g8, g9.Yp [0] Y Y, ha.cut (l := [1, 8, 36]) Y⟩
     ·refine a1g 30 rfl L ?_
      refine a0t Y (by decide) Y (a0t Y (by decide) Y (a0t Y (by decide) Y (a0t Y (by decide) Y (a0t Y (by decide) Y (a0k Y Y Y Y (a0g (a0o (fun a ha => ?_))))))))
      cases m
      exact ⟨_, Yf, g.Yp [0] Y Y, ha.cut (l := [1, 8, 36]) Y⟩
   ·clear hm
    rcases a0f k with ⟨M, k⟩ | ⟨M, k⟩
    ·refine a1g 25 rfl M ?_
     refine a0e fa30_2 Y Y Y (a0p ag3 Y Y g Y (i := 0) Y Y ?_)
     obtain ⟨v8, ga, k⟩ := Yb k
     refine a3c ent63 Y Y Y Y (b9r _ _ _ _ ga) (a0n Y Y Y Y (a0g (a0o (fun a ha => ?_))))
     cases k
     exact ⟨Y, ha.cut (l := [1, 3, 7, 8, 29]) Y⟩
    ·refine a1g 25 rfl M ?_
     refine a0t Y (by decide) Y (a0t Y (by decide) Y (a0t Y (by decide) Y (a0k Y Y Y Y (a0g (a0o (fun a ha => ?_))))))
     cases k
     exact ⟨Y, ha.cut (l := [1, 3, 7, 8, 29]) Y⟩
  ·clear hm
   rcases a0f j with ⟨N, j⟩ | ⟨N, j⟩
   ·refine a1g 20 rfl N ?_
    refine a0e fa30_1 Y Y Y (a0p ag3 Y Y g Y (i := 0) Y Y ?_)
    obtain ⟨v9, gb, j⟩ := Yb j
    refine a3c ent63 Y Y Y Y (b9r _ _ _ _ gb) (a0n Y Y Y Y (a0g (a0o (fun a ha => ?_))))
    cases j
    exact ⟨Y, ha.cut (l := [1, 3, 7, 8, 24]) Y⟩
   ·refine a1g 20 rfl N ?_
    refine a0t Y (by decide) Y (a0t Y (by decide) Y (a0t Y (by decide) Y (a0k Y Y Y Y (a0g (a0o (fun a ha => ?_))))))
    cases j
    exact ⟨Y, ha.cut (l := [1, 3, 7, 8, 24]) Y⟩
 ·clear hm
  rcases a0f t with ⟨u, t⟩ | ⟨u, t⟩
  ·refine a1g 14 rfl u ?_
   refine a0d Y Y Y (a1x T.len u31 Y Y Y (a0d Y Y Y (a0u Y Y Y Y Y (a0n Y Y Y Y (a0g (a0o (fun a ha => ?_)))))))
   cases t
   exact ⟨Y, ha.cut (l := [1, 3, 7, 8, 19]) Y⟩
  ·refine a1g 14 rfl u ?_
   refine a0t Y (by decide) Y (a0t Y (by decide) Y (a0t Y (by decide) Y (a0t Y (by decide) Y (a0k Y Y Y Y (a0g (a0o (fun a ha => ?_)))))))
   cases t
   exact ⟨Y, ha.cut (l := [1, 3, 7, 8, 19]) Y⟩
theorem sz28 : a5q Tryz.prog 28 1 := fun _ => by kernel_rfl
def b4m (n : Nat) (f1 : Frac) : Option Frac :=
 ((a2c n f1.P.Digits).bind fun v1 =>
 (a2c n f1.Q.Digits).bind fun v2 =>
 some (v1, v2)).bind fun (f2, f3) =>
 some (⟨(⟨f1.P.Sign, f2⟩ : Big), (⟨f1.Q.Sign, f3⟩ : Big)⟩ : Frac)
theorem c5k (n : Nat) (f1 : Frac) (r : Frac) (hm : b4m n f1 = some r) {w : World} {F : Frz} (hs : Sat F w) {g5 g6 : Option Addr} {g7 g8 g9 ga : Nat} (g3 : SlR (Rp.int .i64) F g5 g7 g8 f1.P.Digits) (g4 : SlR (Rp.int .i64) F g6 g9 ga f1.Q.Digits) :
  Calls Tryz.prog 34 #[.agg #[.int .i64 f1.P.Sign, .slice g5 g7 g8, .int .i64 f1.Q.Sign, .slice g6 g9 ga]] w fun e w' => ∃ v F' O', e = .returned v ∧ HS F w [] F' O' w' ∧ (∃ (a0_1 : Option Addr) (n0_1 : Nat) (c0_1 : Nat) (a0_3 : Option Addr) (n0_3 : Nat) (c0_3 : Nat), v = .agg #[.int .i64 r.P.Sign, .slice a0_1 n0_1 c0_1, .int .i64 r.Q.Sign, .slice a0_3 n0_3 c0_3] ∧ O' = [] ∧ SlR (Rp.int .i64) F' a0_1 n0_1 c0_1 r.P.Digits ∧ SlR (Rp.int .i64) F' a0_3 n0_3 c0_3 r.Q.Digits) := by
 unfold b4m at hm
 have h := HS.init hs
 refine a1a 16 Tryz.func34 Y Y Y (a0h (a0a (a2i Y Y Y Y h ?_)))
 intro b1 gq gm
 refine a1f ze37 Y Y Y gm ?_
 intro b2 gr gn
 refine a0g (a0c ?_)
 obtain ⟨⟨f2, f3⟩, k, hm⟩ := Yb hm
 refine c8s (fun a w' => ∃ (z : Frz) (U : Option Addr) (V : Nat) (Z : Nat) (g0 : Option Addr) (g1 : Nat) (g2 : Nat), Frz.le F z ∧ HS F w [] z [.box b2 37 [.int .i64 0, .slice none 0 0, .int .i64 0, .slice none 0 0], .box b1 37 [.int .i64 f1.P.Sign, .slice U V Z, .int .i64 f1.Q.Sign, .slice g0 g1 g2]] w' ∧ (SlR (Rp.int .i64) z U V Z f2) ∧ (SlR (Rp.int .i64) z g0 g1 g2 f3) ∧ Has 16 a [(1, .pointer (some ⟨b1, 0, none⟩)), (2, .pointer (some ⟨b2, 0, none⟩))]) ?_ ?_
 rintro a gs ⟨z, U, V, Z, g0, g1, g2, gt, gb, go, gp, gl⟩
 refine a1n gl (a0h (a0a (a0m ag37 sz37 Y Y gb Y (i := 1) Y Y (a0s sz37 Y gb Y Y Y Y (i := 0) Y Y Y Y ?_))))
 intro gu gc
 refine a0g (a0c (a1d (a3y Y ag37 sz37 Y gc Y (i := 0) Y ?_)))
 obtain rfl := Yo hm
 exact ⟨_, _, _, Y, gc.Yp [] Y Y, U, V, Z, g0, g1, g2, Y, Y, go, gp⟩
 clear hm
 refine a2l (SH F [.box b2 37 [.int .i64 0, .slice none 0 0, .int .i64 0, .slice none 0 0]]) 14 Y (by kernel_rfl) gn ?_
 intro gv o
 have S0 := o.Ys Yf [0] Y Y
 refine d_tk 0 Y (by kernel_rfl) Y Y Y Y S0 (fun _ _ _ _ _ => a0e fa37_0 Y Y Y Yn) (d_tk 1 Y (by kernel_rfl) Y Y Y Y S0 (fun _ _ _ _ _ => a0e fa35_1 Y Y Y Yn) (d_tk 4 Y (by kernel_rfl) Y Y Y Y S0 (fun _ _ _ _ _ => a0e fa37_1 Y Y Y Yn) (d_tk 5 Y (by kernel_rfl) Y Y Y Y S0 (fun _ _ _ _ _ => a0e fa35_1 Y Y Y Yn) (b1q 2 6 Y Y (by kernel_rfl) ?_ ?_))))
 refine a0p ag28 Y Y o Y (i := 1) Y Y (a0w S0 (b1q 3 6 Y Y (by kernel_rfl) ?_ ?_))
 obtain ⟨v1, G, k⟩ := Yb k
 refine a0i ent67 Y Y Y Y o (a2m _ _ _ G o.sat g3) ?_
 rintro _ gd _ ge g m ⟨H, I, J, xss5, rfl, rfl, K⟩
 have S1 := m.Ys g [1] Y Y
 refine a0w S1 (a1b 6 Y (by kernel_rfl) (a0p ag28 Y Y m Y (i := 2) Y Y (a0w S1 (d_tk 8 Y (by kernel_rfl) Y Y Y Y S1 (fun _ _ _ _ _ => a0e fa37_0 Y Y Y Yn) (d_tk 9 Y (by kernel_rfl) Y Y Y Y S1 (fun _ _ _ _ _ => a0e fa35_1 Y Y Y Yn) (a1b 7 Y (by kernel_rfl) ?_))))))
 obtain ⟨v2, L, k⟩ := Yb k
 refine a0i ent67 Y Y Y Y m (a2m _ _ _ L m.sat (g4.mono g)) ?_
 rintro _ gf _ gg j p ⟨M, N, R, xss6, rfl, rfl, T⟩
 refine a0w (p.Ys (g.trans j) [2] Y Y) (a1b 10 Y (by kernel_rfl) (a0s sz28 Y p Y Y Y Y (i := 3) Y Y Y Y ?_))
 intro gh q
 have S2 := q.Ys (g.trans j) [2] Y Y
 refine a0w S2 (d_tk 11 Y (by kernel_rfl) Y Y Y Y S2 (fun _ _ _ _ _ => a0e fa37_1 Y Y Y Yn) (d_tk 12 Y (by kernel_rfl) Y Y Y Y S2 (fun _ _ _ _ _ => a0e fa35_1 Y Y Y Yn) (a1b 13 Y (by kernel_rfl) (a0s sz28 Y q Y Y Y Y (i := 3) Y Y Y Y ?_))))
 intro gi s
 refine a0w (s.Ys (g.trans j) [2] Y Y) (a2x (by kernel_rfl) ?_)
 obtain ⟨gj, t, x, hsx1⟩ := a1h s (i := 1) Y (K.mono j)
 obtain ⟨gk, u, y, hsx2⟩ := a1h x (i := 0) Y (T.mono t)
 refine a0o (fun a ha => ?_)
 cases k
 exact ⟨_, H, I, J, M, N, R, (((g.trans j).trans t).trans u), y.Yp [0, 1] Y Y, (hsx1.mono u), hsx2, ha.cut (l := [1, 2]) Y⟩
 refine a0p ag28 Y Y o Y (i := 1) Y Y (a0w S0 (a1b 3 Y (by kernel_rfl) ?_))
 obtain ⟨v1, G, k⟩ := Yb k
 refine a0i ent67 Y Y Y Y o (a2m _ _ _ G o.sat g3) ?_
 rintro _ gd _ ge g m ⟨H, I, J, xss5, rfl, rfl, K⟩
 have S3 := m.Ys g [1] Y Y
 refine a0w S3 (d_tk 8 Y (by kernel_rfl) Y Y Y Y S3 (fun _ _ _ _ _ => a0e fa37_0 Y Y Y Yn) (d_tk 9 Y (by kernel_rfl) Y Y Y Y S3 (fun _ _ _ _ _ => a0e fa35_1 Y Y Y Yn) (a1b 7 Y (by kernel_rfl) ?_)))
 obtain ⟨v2, L, k⟩ := Yb k
 refine a0i ent67 Y Y Y Y m (a2m _ _ _ L m.sat (g4.mono g)) ?_
 rintro _ gf _ gg j p ⟨M, N, R, xss6, rfl, rfl, T⟩
 refine a0w (p.Ys (g.trans j) [2] Y Y) (a1b 10 Y (by kernel_rfl) (a0s sz28 Y p Y Y Y Y (i := 3) Y Y Y Y ?_))
 intro gh q
 have S4 := q.Ys (g.trans j) [2] Y Y
 refine a0w S4 (d_tk 11 Y (by kernel_rfl) Y Y Y Y S4 (fun _ _ _ _ _ => a0e fa37_1 Y Y Y Yn) (d_tk 12 Y (by kernel_rfl) Y Y Y Y S4 (fun _ _ _ _ _ => a0e fa35_1 Y Y Y Yn) (a1b 13 Y (by kernel_rfl) (a0s sz28 Y q Y Y Y Y (i := 3) Y Y Y Y ?_))))
 intro gi s
 refine a0w (s.Ys (g.trans j) [2] Y Y) (a2x (by kernel_rfl) ?_)
 obtain ⟨gj, t, x, hsx1⟩ := a1h s (i := 1) Y (K.mono j)
 obtain ⟨gk, u, y, hsx2⟩ := a1h x (i := 0) Y (T.mono t)
 refine a0o (fun a ha => ?_)
 cases k
 exact ⟨_, H, I, J, M, N, R, (((g.trans j).trans t).trans u), y.Yp [0, 1] Y Y, (hsx1.mono u), hsx2, ha.cut (l := [1, 2]) Y⟩
 refine a0p ag28 Y Y o Y (i := 1) Y Y (a0w S0 (a1b 2 Y (by kernel_rfl) (a0p ag28 Y Y o Y (i := 1) Y Y (a0w S0 (a1b 3 Y (by kernel_rfl) ?_)))))
 obtain ⟨v1, G, k⟩ := Yb k
 refine a0i ent67 Y Y Y Y o (a2m _ _ _ G o.sat g3) ?_
 rintro _ gd _ ge g m ⟨H, I, J, xss5, rfl, rfl, K⟩
 have S5 := m.Ys g [1] Y Y
 refine a0w S5 (d_tk 8 Y (by kernel_rfl) Y Y Y Y S5 (fun _ _ _ _ _ => a0e fa37_0 Y Y Y Yn) (d_tk 9 Y (by kernel_rfl) Y Y Y Y S5 (fun _ _ _ _ _ => a0e fa35_1 Y Y Y Yn) (a1b 7 Y (by kernel_rfl) ?_)))
 obtain ⟨v2, L, k⟩ := Yb k
 refine a0i ent67 Y Y Y Y m (a2m _ _ _ L m.sat (g4.mono g)) ?_
 rintro _ gf _ gg j p ⟨M, N, R, xss6, rfl, rfl, T⟩
 refine a0w (p.Ys (g.trans j) [2] Y Y) (a1b 10 Y (by kernel_rfl) (a0s sz28 Y p Y Y Y Y (i := 3) Y Y Y Y ?_))
 intro gh q
 have S6 := q.Ys (g.trans j) [2] Y Y
 refine a0w S6 (d_tk 11 Y (by kernel_rfl) Y Y Y Y S6 (fun _ _ _ _ _ => a0e fa37_1 Y Y Y Yn) (d_tk 12 Y (by kernel_rfl) Y Y Y Y S6 (fun _ _ _ _ _ => a0e fa35_1 Y Y Y Yn) (a1b 13 Y (by kernel_rfl) (a0s sz28 Y q Y Y Y Y (i := 3) Y Y Y Y ?_))))
 intro gi s
 refine a0w (s.Ys (g.trans j) [2] Y Y) (a2x (by kernel_rfl) ?_)
 obtain ⟨gj, t, x, hsx1⟩ := a1h s (i := 1) Y (K.mono j)
 obtain ⟨gk, u, y, hsx2⟩ := a1h x (i := 0) Y (T.mono t)
 refine a0o (fun a ha => ?_)
 cases k
 exact ⟨_, H, I, J, M, N, R, (((g.trans j).trans t).trans u), y.Yp [0, 1] Y Y, (hsx1.mono u), hsx2, ha.cut (l := [1, 2]) Y⟩
theorem ent19 : Ent Tryz.prog 19 := fun _ _ => by kernel_rfl
theorem ent20 : Ent Tryz.prog 20 := fun _ _ => by kernel_rfl
theorem ent57 : Ent Tryz.prog 57 := fun _ _ => by kernel_rfl
theorem ent105 : Ent Tryz.prog 105 := fun _ _ => by kernel_rfl
theorem ent23 : Ent Tryz.prog 23 := fun _ _ => by kernel_rfl
def a8n (n : Nat) (op1 : Int) (ax1 : Frac) (b1 : Frac) : Option Frac :=
 bif op1 == 5 then
  (b5s n ax1 b1).bind fun v1 =>
  some v1.1
 else
  bif op1 == 6 then
   (b7o n ax1 b1).bind fun v2 =>
   some v2.1
  else
   bif op1 == 7 then
    (b7j n ax1 b1).bind fun v3 =>
    some v3.1
   else
    bif op1 == 8 then
     (b7s n ax1 b1).bind fun v4 =>
     some v4.1
    else
     bif op1 == 9 then
      (b7p n ax1 b1).bind fun v5 =>
      some v5.1
     else
      bif op1 == 10 then
       (b6y n ax1 b1).bind fun v6 =>
       some v6.1
      else
       some (⟨(⟨0, []⟩ : Big), (⟨0, []⟩ : Big)⟩ : Frac)
theorem b9e (n : Nat) (op1 : Int) (ax1 : Frac) (b1 : Frac) (r : Frac) (hm : a8n n op1 ax1 b1 = some r) {w : World} {F : Frz} (hs : Sat F w) {N R T U : Option Addr} {V Z g0 g1 g2 g3 g4 g5 : Nat} (j : SlR (Rp.int .i64) F N V Z ax1.P.Digits) (k : SlR (Rp.int .i64) F R g0 g1 ax1.Q.Digits) (l : SlR (Rp.int .i64) F T g2 g3 b1.P.Digits) (m : SlR (Rp.int .i64) F U g4 g5 b1.Q.Digits) :
  Calls Tryz.prog 70 #[.int .i64 op1, .agg #[.int .i64 ax1.P.Sign, .slice N V Z, .int .i64 ax1.Q.Sign, .slice R g0 g1], .agg #[.int .i64 b1.P.Sign, .slice T g2 g3, .int .i64 b1.Q.Sign, .slice U g4 g5]] w fun e w' => ∃ v F' O', e = .returned v ∧ HS F w [] F' O' w' ∧ (∃ (a0_1 : Option Addr) (n0_1 : Nat) (c0_1 : Nat) (a0_3 : Option Addr) (n0_3 : Nat) (c0_3 : Nat), v = .agg #[.int .i64 r.P.Sign, .slice a0_1 n0_1 c0_1, .int .i64 r.Q.Sign, .slice a0_3 n0_3 c0_3] ∧ O' = [] ∧ SlR (Rp.int .i64) F' a0_1 n0_1 c0_1 r.P.Digits ∧ SlR (Rp.int .i64) F' a0_3 n0_3 c0_3 r.Q.Digits) := by
 unfold a8n at hm
 have h := HS.init hs
 refine a1a 58 Tryz.func70 Y Y Y (a0h (a0a (a2i Y Y Y Y h ?_)))
 intro b2 ih h5
 refine a2i Y Y Y Y h5 ?_
 intro b3 ii h6
 refine a1f ze37 Y Y Y h6 ?_
 intro b4 ij h7
 refine a0g (a0c (a0h (a0a (a1f ze37 Y Y Y h7 ?_))))
 intro b5 ik g
 refine a0g (a0c (a0h (a0h (a0a (a0d Y Y Y (a0g (a0c (a1i (a0h (a0a (a0u Y Y Y Y Y (a0b Y Y Y (a0g (a0c ?_))))))))))))))
 rcases a0f hm with ⟨o, hm⟩ | ⟨o, hm⟩
 refine a0r 9 Y o (a0y Y (a0a (a0m ag37 sz37 Y Y g Y (i := 3) Y Y (a0m ag37 sz37 Y Y g Y (i := 2) Y Y ?_))))
 obtain ⟨v1, h8, hm⟩ := Yb hm
 refine a0i ent21 Y Y Y Y g (c0d _ _ _ _ h8 g.sat j k l m) ?_
 rintro _ il _ im io h9 ⟨ha, hb, hc, hd, he, hf, rfl, rfl, hg, hh⟩
 refine a0d Y Y Y (a0l Y Y Y Y (a0l Y Y Y Y (a0s sz37 Y h9 Y Y Y Y (i := 0) Y Y Y Y ?_)))
 intro ip g6
 refine a0g (a1q (a0c (a0h (a0a (a0m ag37 sz37 Y Y g6 Y (i := 0) Y Y (a0s sz37 Y g6 Y Y Y Y (i := 1) Y Y Y Y ?_))))))
 intro iq g7
 refine a0g (a0c (a1d (a3y Y ag37 sz37 Y g7 Y (i := 1) Y ?_)))
 obtain rfl := Yo hm
 exact ⟨_, _, _, Y, g7.Yp [] Y Y, ha, hb, hc, hd, he, hf, Y, Y, hg, hh⟩
 refine a0r 9 Y o (a0q Y (a0h (a0a (a0u Y Y Y Y Y (a0b Y Y Y (a0g (a0c ?_)))))))
 rcases a0f hm with ⟨p, hm⟩ | ⟨p, hm⟩
 refine a0r 17 Y p (a0y Y (a0a (a0m ag37 sz37 Y Y g Y (i := 3) Y Y (a0m ag37 sz37 Y Y g Y (i := 2) Y Y ?_))))
 obtain ⟨v2, hi, hm⟩ := Yb hm
 refine a0i ent19 Y Y Y Y g (c6d _ _ _ _ hi g.sat j k l m) ?_
 rintro _ ir _ it iu hj ⟨hk, hl, hn, ho, hp, hq, rfl, rfl, hr, ht⟩
 refine a0d Y Y Y (a0l Y Y Y Y (a0l Y Y Y Y (a0s sz37 Y hj Y Y Y Y (i := 0) Y Y Y Y ?_)))
 intro iv g8
 refine a0g (a1q (a0c (a0h (a0a (a0m ag37 sz37 Y Y g8 Y (i := 0) Y Y (a0s sz37 Y g8 Y Y Y Y (i := 1) Y Y Y Y ?_))))))
 intro i2 q
 refine a0g (a0c (a1d (a3y Y ag37 sz37 Y q Y (i := 1) Y ?_)))
 obtain rfl := Yo hm
 exact ⟨_, _, _, Y, q.Yp [] Y Y, hk, hl, hn, ho, hp, hq, Y, Y, hr, ht⟩
 refine a0r 17 Y p (a0q Y (a0h (a0a (a0u Y Y Y Y Y (a0b Y Y Y (a0g (a0c ?_)))))))
 rcases a0f hm with ⟨s, hm⟩ | ⟨s, hm⟩
 refine a0r 25 Y s (a0y Y (a0a (a0m ag37 sz37 Y Y g Y (i := 3) Y Y (a0m ag37 sz37 Y Y g Y (i := 2) Y Y ?_))))
 obtain ⟨v3, hu, hm⟩ := Yb hm
 refine a0i ent20 Y Y Y Y g (c6j _ _ _ _ hu g.sat j k l m) ?_
 rintro _ iw _ i3 ix g9 ⟨hv, hw, hx, ga, gb, gc, rfl, rfl, hy, gd⟩
 refine a0d Y Y Y (a0l Y Y Y Y (a0l Y Y Y Y (a0s sz37 Y g9 Y Y Y Y (i := 0) Y Y Y Y ?_)))
 intro i4 t
 refine a0g (a1q (a0c (a0h (a0a (a0m ag37 sz37 Y Y t Y (i := 0) Y Y (a0s sz37 Y t Y Y Y Y (i := 1) Y Y Y Y ?_))))))
 intro i5 u
 refine a0g (a0c (a1d (a3y Y ag37 sz37 Y u Y (i := 1) Y ?_)))
 obtain rfl := Yo hm
 exact ⟨_, _, _, Y, u.Yp [] Y Y, hv, hw, hx, ga, gb, gc, Y, Y, hy, gd⟩
 refine a0r 25 Y s (a0q Y (a0h (a0a (a0u Y Y Y Y Y (a0b Y Y Y (a0g (a0c ?_)))))))
 rcases a0f hm with ⟨x, hm⟩ | ⟨x, hm⟩
 refine a0r 33 Y x (a0y Y (a0a (a0m ag37 sz37 Y Y g Y (i := 3) Y Y (a0m ag37 sz37 Y Y g Y (i := 2) Y Y ?_))))
 obtain ⟨v4, hz, hm⟩ := Yb hm
 refine a0i ent57 Y Y Y Y g (c5y _ _ _ _ hz g.sat j k l m) ?_
 rintro _ iy _ i6 iz ge ⟨gf, gg, gh, gi, gj, gk, rfl, rfl, gl, gm⟩
 refine a0d Y Y Y (a0l Y Y Y Y (a0l Y Y Y Y (a0s sz37 Y ge Y Y Y Y (i := 0) Y Y Y Y ?_)))
 intro i7 y
 refine a0g (a1q (a0c (a0h (a0a (a0m ag37 sz37 Y Y y Y (i := 0) Y Y (a0s sz37 Y y Y Y Y Y (i := 1) Y Y Y Y ?_))))))
 intro i8 z
 refine a0g (a0c (a1d (a3y Y ag37 sz37 Y z Y (i := 1) Y ?_)))
 obtain rfl := Yo hm
 exact ⟨_, _, _, Y, z.Yp [] Y Y, gf, gg, gh, gi, gj, gk, Y, Y, gl, gm⟩
 refine a0r 33 Y x (a0q Y (a0h (a0a (a0u Y Y Y Y Y (a0b Y Y Y (a0g (a0c ?_)))))))
 rcases a0f hm with ⟨G, hm⟩ | ⟨G, hm⟩
 refine a0r 41 Y G (a0y Y (a0a (a0m ag37 sz37 Y Y g Y (i := 3) Y Y (a0m ag37 sz37 Y Y g Y (i := 2) Y Y ?_))))
 obtain ⟨v5, i0, hm⟩ := Yb hm
 refine a0i ent105 Y Y Y Y g (c5x _ _ _ _ i0 g.sat j k l m) ?_
 rintro _ j0 _ i9 j1 gn ⟨go, gp, gq, gr, gs, gt, rfl, rfl, gu, gv⟩
 refine a0d Y Y Y (a0l Y Y Y Y (a0l Y Y Y Y (a0s sz37 Y gn Y Y Y Y (i := 0) Y Y Y Y ?_)))
 intro ia H
 refine a0g (a1q (a0c (a0h (a0a (a0m ag37 sz37 Y Y H Y (i := 0) Y Y (a0s sz37 Y H Y Y Y Y (i := 1) Y Y Y Y ?_))))))
 intro ib I
 refine a0g (a0c (a1d (a3y Y ag37 sz37 Y I Y (i := 1) Y ?_)))
 obtain rfl := Yo hm
 exact ⟨_, _, _, Y, I.Yp [] Y Y, go, gp, gq, gr, gs, gt, Y, Y, gu, gv⟩
 refine a0r 41 Y G (a0q Y (a0h (a0a (a0u Y Y Y Y Y (a0b Y Y Y (a0g (a0c ?_)))))))
 rcases a0f hm with ⟨J, hm⟩ | ⟨J, hm⟩
 refine a0r 49 Y J (a0y Y (a0a (a0m ag37 sz37 Y Y g Y (i := 3) Y Y (a0m ag37 sz37 Y Y g Y (i := 2) Y Y ?_))))
 obtain ⟨v6, i1, hm⟩ := Yb hm
 refine a0i ent23 Y Y Y Y g (c6m _ _ _ _ i1 g.sat j k l m) ?_
 rintro _ j2 _ ic j3 gw ⟨gx, gy, gz, h0, h1, h2, rfl, rfl, h3, h4⟩
 refine a0d Y Y Y (a0l Y Y Y Y (a0l Y Y Y Y (a0s sz37 Y gw Y Y Y Y (i := 0) Y Y Y Y ?_)))
 intro id K
 refine a0g (a1q (a0c (a0h (a0a (a0m ag37 sz37 Y Y K Y (i := 0) Y Y (a0s sz37 Y K Y Y Y Y (i := 1) Y Y Y Y ?_))))))
 intro ie L
 refine a0g (a0c (a1d (a3y Y ag37 sz37 Y L Y (i := 1) Y ?_)))
 obtain rfl := Yo hm
 exact ⟨_, _, _, Y, L.Yp [] Y Y, gx, gy, gz, h0, h1, h2, Y, Y, h3, h4⟩
 refine a0r 49 Y J (a0q Y (a1c (a1q (a0c (a0h (a0a (a0m ag37 sz37 Y Y g Y (i := 0) Y Y (a0s sz37 Y g Y Y Y Y (i := 1) Y Y Y Y ?_))))))))
 intro ig M
 refine a0g (a0c (a1d (a3y Y ag37 sz37 Y M Y (i := 1) Y ?_)))
 obtain rfl := Yo hm
 exact ⟨_, _, _, Y, M.Yp [] Y Y, none, 0, 0, none, 0, 0, Y, Y, SlR.nil _ _, SlR.nil _ _⟩
structure known where
 names : (List Bs)
 facts : Facts
 weights : (List Frac)
 deriving DecidableEq, Inhabited
theorem fa64_0 : a6u Tryz.prog 64 0 0 := fun _ _ _ => by kernel_rfl
theorem ag27 : b0r Tryz.prog 27 false := fun _ => by kernel_rfl
theorem ent40 : Ent Tryz.prog 40 := fun _ _ => by kernel_rfl
theorem fa64_1 : a6u Tryz.prog 64 1 1 := fun _ _ _ => by kernel_rfl
theorem fa64_2 : a6u Tryz.prog 64 2 4 := fun _ _ _ => by kernel_rfl
theorem ag31 : b0r Tryz.prog 31 false := fun _ => by kernel_rfl
theorem ag64 : b0r Tryz.prog 64 true := fun _ => by kernel_rfl
theorem sz64 : a5q Tryz.prog 64 5 := fun _ => by kernel_rfl
theorem ent69 : Ent Tryz.prog 69 := fun _ _ => by kernel_rfl
theorem ent35 : Ent Tryz.prog 35 := fun _ _ => by kernel_rfl
theorem ent70 : Ent Tryz.prog 70 := fun _ _ => by kernel_rfl
mutual
def fee_known_number : Nat → known → Expr → Option Frac
 | 0, _, _ => none
 | n + 1, k1, x1 =>
  (a2n n k1.names x1.Name).bind fun v1 =>
  bif x1.Op == 0 then
   (a7f n x1.N).bind fun v2 =>
   some v2
  else
   bif x1.Op == 1 then
    (ix k1.facts.Lifts v1).bind fun ex1 =>
    (a7f n ex1).bind fun v3 =>
    some v3
   else
    bif x1.Op == 2 then
     (a7f n k1.facts.Persons).bind fun v4 =>
     some v4
    else
     bif x1.Op == 3 then
      (a7f n k1.facts.Flats).bind fun v5 =>
      some v5
     else
      bif x1.Op == 4 then
       (ix k1.weights v1).bind fun ex2 =>
       some ex2
      else
       bif x1.Op == 11 then
        (ix x1.Args 0).bind fun ex3 =>
        (fee_known_truth n k1 ex3).bind fun v6 =>
        bif v6 then
         (ix x1.Args 1).bind fun ex4 =>
         (fee_known_number n k1 ex4).bind fun v7 =>
         some v7
        else
         (ix x1.Args 2).bind fun ex5 =>
         (fee_known_number n k1 ex5).bind fun v8 =>
         some v8
       else
        (ix x1.Args 0).bind fun ex6 =>
        (ix x1.Args 1).bind fun ex7 =>
        (fee_known_number n k1 ex6).bind fun v9 =>
        (fee_known_number n k1 ex7).bind fun v10 =>
        (a8n n x1.Op v9 v10).bind fun v11 =>
        some v11
def fee_known_truth : Nat → known → Expr → Option Bool
 | 0, _, _ => none
 | n + 1, k1, x1 =>
  bif x1.Op == 14 then
   (ix x1.Args 0).bind fun ex1 =>
   (fee_known_truth n k1 ex1).bind fun v1 =>
   some (!v1)
  else
   bif x1.Op == 15 then
    (ix x1.Args 0).bind fun ex2 =>
    (fee_known_truth n k1 ex2).bind fun v2 =>
    (bif v2 then
     (ix x1.Args 1).bind fun ex3 =>
     (fee_known_truth n k1 ex3).bind fun v4 =>
     some v4
    else
     some false).bind fun v3 =>
    some v3
   else
    bif x1.Op == 16 then
     (ix x1.Args 0).bind fun ex4 =>
     (fee_known_truth n k1 ex4).bind fun v5 =>
     (bif v5 then
      some true
     else
      (ix x1.Args 1).bind fun ex5 =>
      (fee_known_truth n k1 ex5).bind fun v7 =>
      some v7).bind fun v6 =>
     some v6
    else
     (ix x1.Args 0).bind fun ex6 =>
     (ix x1.Args 1).bind fun ex7 =>
     (fee_known_number n k1 ex6).bind fun v8 =>
     (fee_known_number n k1 ex7).bind fun v9 =>
     (a6z n v8 v9).bind fun v10 =>
     bif x1.Op == 12 then
      some (decide (v10 < 0))
     else
      some (v10 == 0)
 end
theorem a3r (n : Nat) (k1 : known) (x1 : Expr) : fee_known_number (n + 1) k1 x1 =
  (a2n n k1.names x1.Name).bind fun v1 =>
  bif x1.Op == 0 then
   (a7f n x1.N).bind fun v2 =>
   some v2
  else
   bif x1.Op == 1 then
    (ix k1.facts.Lifts v1).bind fun ex1 =>
    (a7f n ex1).bind fun v3 =>
    some v3
   else
    bif x1.Op == 2 then
     (a7f n k1.facts.Persons).bind fun v4 =>
     some v4
    else
     bif x1.Op == 3 then
      (a7f n k1.facts.Flats).bind fun v5 =>
      some v5
     else
      bif x1.Op == 4 then
       (ix k1.weights v1).bind fun ex2 =>
       some ex2
      else
       bif x1.Op == 11 then
        (ix x1.Args 0).bind fun ex3 =>
        (fee_known_truth n k1 ex3).bind fun v6 =>
        bif v6 then
         (ix x1.Args 1).bind fun ex4 =>
         (fee_known_number n k1 ex4).bind fun v7 =>
         some v7
        else
         (ix x1.Args 2).bind fun ex5 =>
         (fee_known_number n k1 ex5).bind fun v8 =>
         some v8
       else
        (ix x1.Args 0).bind fun ex6 =>
        (ix x1.Args 1).bind fun ex7 =>
        (fee_known_number n k1 ex6).bind fun v9 =>
        (fee_known_number n k1 ex7).bind fun v10 =>
        (a8n n x1.Op v9 v10).bind fun v11 =>
        some v11 := rfl
theorem a6v (n : Nat) (k1 : known) (x1 : Expr) : fee_known_truth (n + 1) k1 x1 =
  bif x1.Op == 14 then
   (ix x1.Args 0).bind fun ex1 =>
   (fee_known_truth n k1 ex1).bind fun v1 =>
   some (!v1)
  else
   bif x1.Op == 15 then
    (ix x1.Args 0).bind fun ex2 =>
    (fee_known_truth n k1 ex2).bind fun v2 =>
    (bif v2 then
     (ix x1.Args 1).bind fun ex3 =>
     (fee_known_truth n k1 ex3).bind fun v4 =>
     some v4
    else
     some false).bind fun v3 =>
    some v3
   else
    bif x1.Op == 16 then
     (ix x1.Args 0).bind fun ex4 =>
     (fee_known_truth n k1 ex4).bind fun v5 =>
     (bif v5 then
      some true
     else
      (ix x1.Args 1).bind fun ex5 =>
      (fee_known_truth n k1 ex5).bind fun v7 =>
      some v7).bind fun v6 =>
     some v6
    else
     (ix x1.Args 0).bind fun ex6 =>
     (ix x1.Args 1).bind fun ex7 =>
     (fee_known_number n k1 ex6).bind fun v8 =>
     (fee_known_number n k1 ex7).bind fun v9 =>
     (a6z n v8 v9).bind fun v10 =>
     bif x1.Op == 12 then
      some (decide (v10 < 0))
     else
      some (v10 == 0) := rfl
theorem b5y (n : Nat) : (∀ (k1 : known) (x1 : Expr) (r : Frac) (_ : fee_known_number n k1 x1 = some r) {w : World} {F : Frz} (_ : Sat F w) {G : Option Addr} {H : Nat} {k : Nat} {I : Option Addr} {J : Nat} {s : Nat} {K : Option Addr} {L : Nat} {t : Nat} {M : Option Addr} {R : Nat} {u : Nat} (_ : SlR Rp.str F G H k k1.names) (_ : SlR (Rp.int .i64) F I J s k1.facts.Lifts) (_ : SlR rp_Frac F K L t k1.weights) (_ : SlR rp_Expr F M R u x1.Args), Calls Tryz.prog 35 #[.agg #[.slice G H k, .slice I J s, .int .i64 k1.facts.Persons, .int .i64 k1.facts.Flats, .slice K L t], .agg #[.int .i64 x1.Op, .int .i64 x1.N, vs x1.Name, .slice M R u]] w fun e w' => ∃ v F' O', e = .returned v ∧ HS F w [] F' O' w' ∧ (∃ (a0_1 : Option Addr) (n0_1 : Nat) (c0_1 : Nat) (a0_3 : Option Addr) (n0_3 : Nat) (c0_3 : Nat), v = .agg #[.int .i64 r.P.Sign, .slice a0_1 n0_1 c0_1, .int .i64 r.Q.Sign, .slice a0_3 n0_3 c0_3] ∧ O' = [] ∧ SlR (Rp.int .i64) F' a0_1 n0_1 c0_1 r.P.Digits ∧ SlR (Rp.int .i64) F' a0_3 n0_3 c0_3 r.Q.Digits)) ∧
  (∀ (k1 : known) (x1 : Expr) (r : Bool) (_ : fee_known_truth n k1 x1 = some r) {w : World} {F : Frz} (_ : Sat F w) {G : Option Addr} {H : Nat} {k : Nat} {I : Option Addr} {J : Nat} {s : Nat} {K : Option Addr} {L : Nat} {t : Nat} {M : Option Addr} {R : Nat} {u : Nat} (_ : SlR Rp.str F G H k k1.names) (_ : SlR (Rp.int .i64) F I J s k1.facts.Lifts) (_ : SlR rp_Frac F K L t k1.weights) (_ : SlR rp_Expr F M R u x1.Args), Calls Tryz.prog 69 #[.agg #[.slice G H k, .slice I J s, .int .i64 k1.facts.Persons, .int .i64 k1.facts.Flats, .slice K L t], .agg #[.int .i64 x1.Op, .int .i64 x1.N, vs x1.Name, .slice M R u]] w fun e w' => ∃ v F' O', e = .returned v ∧ HS F w [] F' O' w' ∧ (v = .bool r ∧ O' = [])) := by
 induction n with
 | zero =>
  refine ⟨?_, ?_⟩
  intro k1 x1 r hm
  exact absurd (show (none : Option Frac) = some r from hm) (by simp)
  intro k1 x1 r hm
  exact absurd (show (none : Option Bool) = some r from hm) (by simp)
 | succ n ih =>
  refine ⟨?_, ?_⟩
  intro k1 x1 r hm w F hs G H k I J s K L t M R u m o p x
  rw [a3r] at hm
  have h := HS.init hs
  refine a1a 81 Tryz.func35 Y Y Y (a0h (a0a (a2i Y Y Y Y h ?_)))
  intro b1 km gx
  refine a2i Y Y Y Y gx ?_
  intro b2 kn Z
  refine a1f ze37 Y Y Y Z ?_
  intro b3 ko g
  refine a0g (a0c (a0h (a0a (a0e fa64_0 Y Y Y (a0p ag27 Y Y g Y (i := 2) Y Y (a0e fa24_2 Y Y Y (a0p ag9 Y Y g Y (i := 1) Y Y ?_)))))))
  obtain ⟨v1, gy, hm⟩ := Yb hm
  refine a3c ent68 Y Y Y Y (a7j _ _ _ _ gy g.sat m) (a0b Y Y Y (a0g (a0c (a0h (a0h (a0a (a0e fa24_0 Y Y Y (a0p ag3 Y Y g Y (i := 1) Y Y (a0g (a0c (a1i (a0h (a0a (a0u Y Y Y Y Y (a0b Y Y Y (a0g (a0c ?_)))))))))))))))))
  rcases a0f hm with ⟨g0, hm⟩ | ⟨g0, hm⟩
  refine a0r 13 Y g0 (a0y Y (a0h (a0a (a0e fa24_1 Y Y Y (a0p ag3 Y Y g Y (i := 1) Y Y ?_)))))
  obtain ⟨v2, gz, hm⟩ := Yb hm
  refine a0i ent40 Y Y Y Y g (a9j _ _ _ gz g.sat) ?_
  rintro _ kp _ m4 kq h0 ⟨j2, j3, gt, j4, j5, gu, rfl, rfl, h1, h2⟩
  refine a0s sz37 Y h0 Y Y Y Y (i := 0) Y Y Y Y ?_
  intro kr gv
  refine a0g (a0c (a1d (a0v (a0j (a3y Y ag37 sz37 Y gv Y (i := 0) Y ?_)))))
  obtain rfl := Yo hm
  exact ⟨_, _, _, Y, gv.Yp [] Y Y, j2, j3, gt, j4, j5, gu, Y, Y, h1, h2⟩
  refine a0r 13 Y g0 (a0q Y (a0h (a0a (a0u Y Y Y Y Y (a0b Y Y Y (a0g (a0c ?_)))))))
  rcases a0f hm with ⟨g1, hm⟩ | ⟨g1, hm⟩
  refine a0r 18 Y g1 (a0y Y (a0h (a0a (a0e fa64_1 Y Y Y (a0e fa30_0 Y Y Y (a0p ag28 Y Y g Y (i := 2) Y Y (a0d Y Y Y ?_)))))))
  obtain ⟨ex1, h3, hm⟩ := Yb hm
  refine a2e (r := (Rp.int .i64)) u28 sz3 Y Y Y Y o h3 ?_
  intro b4 o1 k h4 h5
  have h6 : k = [.int .i64 ex1] := h5
  subst h6
  refine a1s (j := 0) ag3 Y Y g h4 Y Y ?_
  obtain ⟨v3, h7, hm⟩ := Yb hm
  refine a0i ent40 Y Y Y Y g (a9j _ _ _ h7 g.sat) ?_
  rintro _ ks _ m5 kt gb ⟨j6, j7, gw, j8, j9, ja, rfl, rfl, h8, h9⟩
  refine a0s sz37 Y gb Y Y Y Y (i := 0) Y Y Y Y ?_
  intro ku g5
  refine a0g (a0c (a1d (a0v (a0j (a3y Y ag37 sz37 Y g5 Y (i := 0) Y ?_)))))
  obtain rfl := Yo hm
  exact ⟨_, _, _, Y, g5.Yp [] Y Y, j6, j7, gw, j8, j9, ja, Y, Y, h8, h9⟩
  refine a0r 18 Y g1 (a0q Y (a0h (a0a (a0u Y Y Y Y Y (a0b Y Y Y (a0g (a0c ?_)))))))
  rcases a0f hm with ⟨y, hm⟩ | ⟨y, hm⟩
  refine a0r 27 Y y (a0y Y (a0h (a0a (a0e fa64_1 Y Y Y (a0e fa30_1 Y Y Y (a0p ag3 Y Y g Y (i := 2) Y Y ?_))))))
  obtain ⟨v4, hb, hm⟩ := Yb hm
  refine a0i ent40 Y Y Y Y g (a9j _ _ _ hb g.sat) ?_
  rintro _ kv _ kw kx gc ⟨jb, jc, jd, hc, hd, he, rfl, rfl, hf, gf⟩
  refine a0s sz37 Y gc Y Y Y Y (i := 0) Y Y Y Y ?_
  intro ky U
  refine a0g (a0c (a1d (a0v (a0j (a3y Y ag37 sz37 Y U Y (i := 0) Y ?_)))))
  obtain rfl := Yo hm
  exact ⟨_, _, _, Y, U.Yp [] Y Y, jb, jc, jd, hc, hd, he, Y, Y, hf, gf⟩
  refine a0r 27 Y y (a0q Y (a0h (a0a (a0u Y Y Y Y Y (a0b Y Y Y (a0g (a0c ?_)))))))
  rcases a0f hm with ⟨g2, hm⟩ | ⟨g2, hm⟩
  refine a0r 33 Y g2 (a0y Y (a0h (a0a (a0e fa64_1 Y Y Y (a0e fa30_2 Y Y Y (a0p ag3 Y Y g Y (i := 2) Y Y ?_))))))
  obtain ⟨v5, hg, hm⟩ := Yb hm
  refine a0i ent40 Y Y Y Y g (a9j _ _ _ hg g.sat) ?_
  rintro _ kz _ jf T jg ⟨hh, hi, hj, hk, hl, hn, rfl, rfl, gg, gh⟩
  refine a0s sz37 Y jg Y Y Y Y (i := 0) Y Y Y Y ?_
  intro jh ho
  refine a0g (a0c (a1d (a0v (a0j (a3y Y ag37 sz37 Y ho Y (i := 0) Y ?_)))))
  obtain rfl := Yo hm
  exact ⟨_, _, _, Y, ho.Yp [] Y Y, hh, hi, hj, hk, hl, hn, Y, Y, gg, gh⟩
  refine a0r 33 Y g2 (a0q Y (a0h (a0a (a0u Y Y Y Y Y (a0b Y Y Y (a0g (a0c ?_)))))))
  rcases a0f hm with ⟨g3, hm⟩ | ⟨g3, hm⟩
  refine a0r 39 Y g3 (a0y Y (a0h (a0a (a0e fa64_2 Y Y Y (a0p ag31 Y Y g Y (i := 2) Y Y (a0d Y Y Y ?_))))))
  obtain ⟨ex2, hp, hm⟩ := Yb hm
  refine a2e (r := rp_Frac) u31 sz37 Y Y Y Y p hp ?_
  intro b5 o2 s hr ht
  obtain ⟨hu, hv, hw, hx, hy, hz, i0, gi, gj⟩ := ht
  subst i0
  refine a4g ag37 sz37 Y Y g hr Y Y (a0s sz37 Y g Y Y Y Y (i := 0) Y Y Y Y ?_)
  intro l2 i1
  refine a0g (a0c (a1d (a0v (a0j (a3y Y ag37 sz37 Y i1 Y (i := 0) Y ?_)))))
  obtain rfl := Yo hm
  exact ⟨_, _, _, Y, i1.Yp [] Y Y, hu, hv, hw, hx, hy, hz, Y, Y, gi, gj⟩
  refine a0r 39 Y g3 (a0q Y (a0h (a0a (a0u Y Y Y Y Y (a0b Y Y Y (a0g (a0c ?_)))))))
  rcases a0f hm with ⟨z, hm⟩ | ⟨z, hm⟩
  refine a0r 46 Y z (a0y Y (a0h (a0h (a3j (by kernel_rfl) (by kernel_rfl) g (a1e Y Y Y Y (fun _ _ _ hq => a0m ag64 sz64 Y Y hq Y (i := 2) Y Y Yn) (a1e Y Y Y Y (fun _ _ _ _ => a0e fa24_3 Y Y Y Yn) (a1e Y Y Y Y (fun _ _ _ hq => a0p ag22 Y Y hq Y (i := 1) Y Y Yn) ?_)))))))
  obtain ⟨ex3, i2, hm⟩ := Yb hm
  obtain ⟨b6, o3, t, i3, i4, g6⟩ := a2j (P := Tryz.prog) (r := rp_Expr) u22 sz24 x i2
  obtain ⟨ji, jj, jk, i5, gk⟩ := expr_iff.1 i4
  subst i5
  refine a2o Y Y Y Y g6 (a1e Y Y Y Y (fun _ _ hleq hq => a4g ag24 sz24 Y Y hq (i3.mono hleq) Y Y Yn) ?_)
  obtain ⟨v6, i6, hm⟩ := Yb hm
  refine b4e ent69 Y Y Y Y (fun _ _ hleq hq => ih.2 _ _ _ i6 hq.sat (m.mono hleq) (o.mono hleq) (p.mono hleq) (gk.mono hleq)) (b0t ?_)
  rintro l3 ⟨i7, q, i8⟩
  refine a0c ?_
  rcases a0f hm with ⟨g4, hm⟩ | ⟨g4, hm⟩
  refine a0r 53 Y g4 (a0y Y (a0h (a2l (SH i7 [.box b2 24 [.int .i64 x1.Op, .int .i64 x1.N, vs x1.Name, .slice M R u], .box b1 64 [.slice G H k, .slice I J s, .int .i64 k1.facts.Persons, .int .i64 k1.facts.Flats, .slice K L t]]) 7 Y (by kernel_rfl) i8 ?_)))
  intro l4 gl
  have S0 := gl.Ys Yf [1, 2] Y Y
  refine d_tk 0 Y (by kernel_rfl) Y Y Y Y S0 (fun _ _ _ _ hq => a0m ag64 sz64 Y Y hq Y (i := 1) Y Y Yn) (d_tk 1 Y (by kernel_rfl) Y Y Y Y S0 (fun _ _ _ _ _ => a0e fa24_3 Y Y Y Yn) (d_tk 2 Y (by kernel_rfl) Y Y Y Y S0 (fun _ _ _ _ hq => a0p ag22 Y Y hq Y (i := 0) Y Y Yn) ?_))
  obtain ⟨ex4, i9, hm⟩ := Yb hm
  obtain ⟨b7, o4, u, ia, ib, g7⟩ := a2j (P := Tryz.prog) (r := rp_Expr) u22 sz24 (x.mono q) i9
  obtain ⟨l5, l6, l7, ic, jl⟩ := expr_iff.1 ib
  subst ic
  refine b1v 3 Y (by kernel_rfl) (by kernel_rfl) (by kernel_rfl) Y Y Y Y g7 S0 (d_tk 4 Y (by kernel_rfl) Y Y Y Y S0 (fun _ _ _ hleq hq => a4g ag24 sz24 Y Y hq (ia.mono hleq) Y Y Yn) (a1b 5 Y (by kernel_rfl) ?_))
  obtain ⟨v7, id, hm⟩ := Yb hm
  refine a0i ent35 Y Y Y Y gl (ih.1 _ _ _ id gl.sat (m.mono q) (o.mono q) (p.mono q) jl) ?_
  rintro _ l0 _ l8 gd ie ⟨jm, jn, jo, jp, jq, jr, rfl, rfl, js, jt⟩
  refine a0w (ie.Ys gd [1, 2] Y Y) (a1b 6 Y (by kernel_rfl) (a0s sz37 Y ie Y Y Y Y (i := 0) Y Y Y Y ?_))
  intro l9 gm
  refine a0w (gm.Ys gd [1, 2] Y Y) (a2x (by kernel_rfl) (a0c (a1d (a0j (a0v (a0j (a3y Y ag37 sz37 Y gm Y (i := 0) Y ?_)))))))
  obtain rfl := Yo hm
  exact ⟨_, _, _, Y, gm.Yp [] Y Y, jm, jn, jo, jp, jq, jr, Y, Y, js, jt⟩
  refine a0r 53 Y g4 (a0q Y (a1c (a0c (a0h (a2l (SH i7 [.box b2 24 [.int .i64 x1.Op, .int .i64 x1.N, vs x1.Name, .slice M R u], .box b1 64 [.slice G H k, .slice I J s, .int .i64 k1.facts.Persons, .int .i64 k1.facts.Flats, .slice K L t]]) 7 Y (by kernel_rfl) i8 ?_)))))
  intro la gn
  have S1 := gn.Ys Yf [1, 2] Y Y
  refine d_tk 0 Y (by kernel_rfl) Y Y Y Y S1 (fun _ _ _ _ hq => a0m ag64 sz64 Y Y hq Y (i := 1) Y Y Yn) (d_tk 1 Y (by kernel_rfl) Y Y Y Y S1 (fun _ _ _ _ _ => a0e fa24_3 Y Y Y Yn) (d_tk 2 Y (by kernel_rfl) Y Y Y Y S1 (fun _ _ _ _ hq => a0p ag22 Y Y hq Y (i := 0) Y Y Yn) ?_))
  obtain ⟨ex5, ig, hm⟩ := Yb hm
  obtain ⟨b8, o5, gt, ii, ij, g8⟩ := a2j (P := Tryz.prog) (r := rp_Expr) u22 sz24 (x.mono q) ig
  obtain ⟨lb, lc, ld, ik, ju⟩ := expr_iff.1 ij
  subst ik
  refine b1v 3 Y (by kernel_rfl) (by kernel_rfl) (by kernel_rfl) Y Y Y Y g8 S1 (d_tk 4 Y (by kernel_rfl) Y Y Y Y S1 (fun _ _ _ hleq hq => a4g ag24 sz24 Y Y hq (ii.mono hleq) Y Y Yn) (a1b 5 Y (by kernel_rfl) ?_))
  obtain ⟨v8, il, hm⟩ := Yb hm
  refine a0i ent35 Y Y Y Y gn (ih.1 _ _ _ il gn.sat (m.mono q) (o.mono q) (p.mono q) ju) ?_
  rintro _ m6 _ le je im ⟨jv, jw, jx, jy, jz, k0, rfl, rfl, k2, k3⟩
  refine a0w (im.Ys je [1, 2] Y Y) (a1b 6 Y (by kernel_rfl) (a0s sz37 Y im Y Y Y Y (i := 0) Y Y Y Y ?_))
  intro lf go
  refine a0w (go.Ys je [1, 2] Y Y) (a2x (by kernel_rfl) (a0c (a1d (a0v (a0j (a3y Y ag37 sz37 Y go Y (i := 0) Y ?_))))))
  obtain rfl := Yo hm
  exact ⟨_, _, _, Y, go.Yp [] Y Y, jv, jw, jx, jy, jz, k0, Y, Y, k2, k3⟩
  refine a0r 46 Y z (a0q Y (a1c (a1q (a0c (a0h (a2l (SH F [.box b2 24 [.int .i64 x1.Op, .int .i64 x1.N, vs x1.Name, .slice M R u], .box b1 64 [.slice G H k, .slice I J s, .int .i64 k1.facts.Persons, .int .i64 k1.facts.Flats, .slice K L t]]) 16 Y (by kernel_rfl) g ?_))))))
  intro lg gp
  have S2 := gp.Ys Yf [1, 2] Y Y
  refine d_tk 0 Y (by kernel_rfl) Y Y Y Y S2 (fun _ _ _ _ _ => a0e fa24_0 Y Y Y Yn) (d_tk 1 Y (by kernel_rfl) Y Y Y Y S2 (fun _ _ _ _ hq => a0p ag3 Y Y hq Y (i := 0) Y Y Yn) (d_tk 2 Y (by kernel_rfl) Y Y Y Y S2 (fun _ _ _ _ hq => a0m ag64 sz64 Y Y hq Y (i := 1) Y Y Yn) (d_tk 3 Y (by kernel_rfl) Y Y Y Y S2 (fun _ _ _ _ _ => a0e fa24_3 Y Y Y Yn) (d_tk 4 Y (by kernel_rfl) Y Y Y Y S2 (fun _ _ _ _ hq => a0p ag22 Y Y hq Y (i := 0) Y Y Yn) ?_))))
  obtain ⟨ex6, io, hm⟩ := Yb hm
  obtain ⟨b9, o6, gu, ip, iq, g9⟩ := a2j (P := Tryz.prog) (r := rp_Expr) u22 sz24 x io
  obtain ⟨lh, li, lj, ir, k4⟩ := expr_iff.1 iq
  subst ir
  refine b1v 5 Y (by kernel_rfl) (by kernel_rfl) (by kernel_rfl) Y Y Y Y g9 S2 (d_tk 6 Y (by kernel_rfl) Y Y Y Y S2 (fun _ _ _ hleq hq => a4g ag24 sz24 Y Y hq (ip.mono hleq) Y Y Yn) (d_tk 8 Y (by kernel_rfl) Y Y Y Y S2 (fun _ _ _ _ hq => a0m ag64 sz64 Y Y hq Y (i := 1) Y Y Yn) (d_tk 9 Y (by kernel_rfl) Y Y Y Y S2 (fun _ _ _ _ _ => a0e fa24_3 Y Y Y Yn) (d_tk 10 Y (by kernel_rfl) Y Y Y Y S2 (fun _ _ _ _ hq => a0p ag22 Y Y hq Y (i := 0) Y Y Yn) ?_))))
  obtain ⟨ex7, it, hm⟩ := Yb hm
  obtain ⟨b10, o7, gw, iu, iv, ga⟩ := a2j (P := Tryz.prog) (r := rp_Expr) u22 sz24 x it
  obtain ⟨lk, ll, lm, iw, k5⟩ := expr_iff.1 iv
  subst iw
  refine b1v 11 Y (by kernel_rfl) (by kernel_rfl) (by kernel_rfl) Y Y Y Y ga S2 (d_tk 12 Y (by kernel_rfl) Y Y Y Y S2 (fun _ _ _ hleq hq => a4g ag24 sz24 Y Y hq (iu.mono hleq) Y Y Yn) (a1b 7 Y (by kernel_rfl) ?_))
  obtain ⟨v9, l1, hm⟩ := Yb hm
  refine a0i ent35 Y Y Y Y gp (ih.1 _ _ _ l1 gp.sat m o p k4) ?_
  rintro _ m7 _ ln V gq ⟨lo, lp, lq, lr, ls, lt, rfl, rfl, k6, k7⟩
  refine a0w (gq.Ys V [1, 2] Y Y) (a1b 13 Y (by kernel_rfl) ?_)
  obtain ⟨v10, k8, hm⟩ := Yb hm
  refine a0i ent35 Y Y Y Y gq (ih.1 _ _ _ k8 gq.sat (m.mono V) (o.mono V) (p.mono V) (k5.mono V)) ?_
  rintro _ m8 _ lu ge gr ⟨lv, lw, lx, ly, lz, m0, rfl, rfl, k9, ka⟩
  refine a0w (gr.Ys (V.trans ge) [1, 2] Y Y) (a1b 14 Y (by kernel_rfl) ?_)
  obtain ⟨v11, kb, hm⟩ := Yb hm
  refine a0i ent70 Y Y Y Y gr (b9e _ _ _ _ _ kb gr.sat (k6.mono ge) (k7.mono ge) k9 ka) ?_
  rintro _ m1 _ m2 ix iy ⟨kc, kd, ke, kf, kg, kh, rfl, rfl, ki, kj⟩
  refine a0w (iy.Ys ((V.trans ge).trans ix) [1, 2] Y Y) (a1b 15 Y (by kernel_rfl) (a0s sz37 Y iy Y Y Y Y (i := 0) Y Y Y Y ?_))
  intro m3 gs
  refine a0w (gs.Ys ((V.trans ge).trans ix) [1, 2] Y Y) (a2x (by kernel_rfl) (a0c (a1d (a3y Y ag37 sz37 Y gs Y (i := 0) Y ?_))))
  obtain rfl := Yo hm
  exact ⟨_, _, _, Y, gs.Yp [] Y Y, kc, kd, ke, kf, kg, kh, Y, Y, ki, kj⟩
  intro k1 x1 r hm w F hs G H k I J s K L t M R u m o p x
  rw [a6v] at hm
  have h := HS.init hs
  refine a1a 69 Tryz.func69 Y Y Y (a0h (a0a (a2i Y Y Y Y h ?_)))
  intro b1 km gx
  refine a2i Y Y Y Y gx ?_
  intro b2 kn Z
  refine a0b Y Y Y (a0g (a0c (a0h (a0h (a0a (a0e fa24_0 Y Y Y (a0p ag3 Y Y Z Y (i := 0) Y Y (a0g (a0c (a1i (a0h (a0a (a0u Y Y Y Y Y (a0b Y Y Y (a0g (a0c ?_))))))))))))))))
  rcases a0f hm with ⟨g0, hm⟩ | ⟨g0, hm⟩
  refine a0r 8 Y g0 (a0y Y (a0h (a3j (by kernel_rfl) (by kernel_rfl) Z (a1e Y Y Y Y (fun _ _ _ hq => a0m ag64 sz64 Y Y hq Y (i := 1) Y Y Yn) (a1e Y Y Y Y (fun _ _ _ _ => a0e fa24_3 Y Y Y Yn) (a1e Y Y Y Y (fun _ _ _ hq => a0p ag22 Y Y hq Y (i := 0) Y Y Yn) ?_))))))
  obtain ⟨ex1, h3, hm⟩ := Yb hm
  obtain ⟨b3, o1, k, h4, h5, g6⟩ := a2j (P := Tryz.prog) (r := rp_Expr) u22 sz24 x h3
  obtain ⟨j2, j3, gt, h6, h1⟩ := expr_iff.1 h5
  subst h6
  refine a2o Y Y Y Y g6 (a1e Y Y Y Y (fun _ _ hleq hq => a4g ag24 sz24 Y Y hq (h4.mono hleq) Y Y Yn) ?_)
  obtain ⟨v1, gy, hm⟩ := Yb hm
  refine b4e ent69 Y Y Y Y (fun _ _ hleq hq => ih.2 _ _ _ gy hq.sat (m.mono hleq) (o.mono hleq) (p.mono hleq) (h1.mono hleq)) (a1e Y Y Y Y (fun _ _ _ _ => a3d Y Y Y Yn) (a1e Y Y Y Y (fun _ _ _ _ => a0b Y Y Y Yn) (b0t ?_)))
  rintro ko ⟨kp, kq, g⟩
  refine a0c (a1d (a0v (a0j (a1j Y Y ?_))))
  obtain rfl := Yo hm
  exact ⟨_, _, _, Y, g.Yp [] Y Y, Y, Y⟩
  refine a0r 8 Y g0 (a0q Y (a0h (a0a (a0u Y Y Y Y Y (a0b Y Y Y (a0g (a0c ?_)))))))
  rcases a0f hm with ⟨g1, hm⟩ | ⟨g1, hm⟩
  refine a0r 17 Y g1 (a0y Y (a0h (a3j (by kernel_rfl) (by kernel_rfl) Z (a1e Y Y Y Y (fun _ _ _ hq => a0m ag64 sz64 Y Y hq Y (i := 1) Y Y Yn) (a1e Y Y Y Y (fun _ _ _ _ => a0e fa24_3 Y Y Y Yn) (a1e Y Y Y Y (fun _ _ _ hq => a0p ag22 Y Y hq Y (i := 0) Y Y Yn) ?_))))))
  obtain ⟨ex2, hp, hm⟩ := Yb hm
  obtain ⟨b4, o2, s, hr, ht, g7⟩ := a2j (P := Tryz.prog) (r := rp_Expr) u22 sz24 x hp
  obtain ⟨j4, j5, gu, i0, h2⟩ := expr_iff.1 ht
  subst i0
  refine a2o Y Y Y Y g7 (a1e Y Y Y Y (fun _ _ hleq hq => a4g ag24 sz24 Y Y hq (hr.mono hleq) Y Y Yn) ?_)
  obtain ⟨v2, gz, hm⟩ := Yb hm
  refine b4e ent69 Y Y Y Y (fun _ _ hleq hq => ih.2 _ _ _ gz hq.sat (m.mono hleq) (o.mono hleq) (p.mono hleq) (h2.mono hleq)) (a1e Y Y Y Y (fun _ _ _ _ => a0d Y Y Y Yn) ?_)
  obtain ⟨v3, y, hm⟩ := Yb hm
  refine b8v 7 (fun a => Has 69 a [(32, .bool v3)]) ?_ ?_
  intro a kk
  refine a9e kk (a1e Y Y Y Y (fun _ _ _ _ => a0b Y Y Y Yn) (b0t ?_))
  rintro kr ⟨ks, kt, h0⟩
  refine a0c (a1d (a0v (a0j (a1j Y Y ?_))))
  obtain rfl := Yo hm
  exact ⟨_, _, _, Y, h0.Yp [] Y Y, Y, Y⟩
  clear hm
  rcases a0f y with ⟨g2, y⟩ | ⟨g2, y⟩
  refine b1r 25 Y g2 (a1e Y Y Y Y (fun _ _ _ hq => a0m ag64 sz64 Y Y hq Y (i := 1) Y Y Yn) (a1e Y Y Y Y (fun _ _ _ _ => a0e fa24_3 Y Y Y Yn) (a1e Y Y Y Y (fun _ _ _ hq => a0p ag22 Y Y hq Y (i := 0) Y Y Yn) ?_)))
  obtain ⟨ex3, i2, y⟩ := Yb y
  obtain ⟨b5, o3, t, i3, i4, g8⟩ := a2j (P := Tryz.prog) (r := rp_Expr) u22 sz24 x i2
  obtain ⟨j6, j7, gw, i5, h8⟩ := expr_iff.1 i4
  subst i5
  refine a2o Y Y Y Y g8 (a1e Y Y Y Y (fun _ _ hleq hq => a4g ag24 sz24 Y Y hq (i3.mono hleq) Y Y Yn) ?_)
  obtain ⟨v4, h7, y⟩ := Yb y
  refine b4e ent69 Y Y Y Y (fun _ _ hleq hq => ih.2 _ _ _ h7 hq.sat (m.mono hleq) (o.mono hleq) (p.mono hleq) (h8.mono hleq)) (a1e Y Y Y Y (fun _ _ _ _ => a0n Y Y Y Y Yn) (b1w (fun a ha => ?_)))
  cases y
  exact ha.cut (l := [32]) Y
  refine b1r 25 Y g2 (a3g Y Y Y (a3g Y Y Y (a3g Y Y Y (a3g Y Y Y (a3g Y Y Y (a3g Y Y Y (a1e Y Y Y Y (fun _ _ _ _ => a0k Y Y Y Y Yn) (b1w (fun a ha => ?_)))))))))
  cases y
  exact ha.cut (l := [32]) Y
  refine a0r 17 Y g1 (a0q Y (a0h (a0a (a0u Y Y Y Y Y (a0b Y Y Y (a0g (a0c ?_)))))))
  rcases a0f hm with ⟨g3, hm⟩ | ⟨g3, hm⟩
  refine a0r 33 Y g3 (a0y Y (a0h (a3j (by kernel_rfl) (by kernel_rfl) Z (a1e Y Y Y Y (fun _ _ _ hq => a0m ag64 sz64 Y Y hq Y (i := 1) Y Y Yn) (a1e Y Y Y Y (fun _ _ _ _ => a0e fa24_3 Y Y Y Yn) (a1e Y Y Y Y (fun _ _ _ hq => a0p ag22 Y Y hq Y (i := 0) Y Y Yn) ?_))))))
  obtain ⟨ex4, i9, hm⟩ := Yb hm
  obtain ⟨b6, o4, u, ia, ib, g9⟩ := a2j (P := Tryz.prog) (r := rp_Expr) u22 sz24 x i9
  obtain ⟨j8, j9, ja, ic, h9⟩ := expr_iff.1 ib
  subst ic
  refine a2o Y Y Y Y g9 (a1e Y Y Y Y (fun _ _ hleq hq => a4g ag24 sz24 Y Y hq (ia.mono hleq) Y Y Yn) ?_)
  obtain ⟨v5, hb, hm⟩ := Yb hm
  refine b4e ent69 Y Y Y Y (fun _ _ hleq hq => ih.2 _ _ _ hb hq.sat (m.mono hleq) (o.mono hleq) (p.mono hleq) (h9.mono hleq)) (a1e Y Y Y Y (fun _ _ _ _ => a0d Y Y Y Yn) ?_)
  obtain ⟨v6, z, hm⟩ := Yb hm
  refine b8v 7 (fun a => Has 69 a [(48, .bool v6)]) ?_ ?_
  intro a kl
  refine a9e kl (a1e Y Y Y Y (fun _ _ _ _ => a0b Y Y Y Yn) (b0t ?_))
  rintro ku ⟨kv, kx, gv⟩
  refine a0c (a1d (a0v (a0j (a1j Y Y ?_))))
  obtain rfl := Yo hm
  exact ⟨_, _, _, Y, gv.Yp [] Y Y, Y, Y⟩
  clear hm
  rcases a0f z with ⟨g4, z⟩ | ⟨g4, z⟩
  refine b1r 41 Y g4 (a3g Y Y Y (a3g Y Y Y (a3g Y Y Y (a3g Y Y Y (a3g Y Y Y (a3g Y Y Y (a1e Y Y Y Y (fun _ _ _ _ => a0n Y Y Y Y Yn) (b1w (fun a ha => ?_)))))))))
  cases z
  exact ha.cut (l := [48]) Y
  refine b1r 41 Y g4 (a1e Y Y Y Y (fun _ _ _ hq => a0m ag64 sz64 Y Y hq Y (i := 1) Y Y Yn) (a1e Y Y Y Y (fun _ _ _ _ => a0e fa24_3 Y Y Y Yn) (a1e Y Y Y Y (fun _ _ _ hq => a0p ag22 Y Y hq Y (i := 0) Y Y Yn) ?_)))
  obtain ⟨ex5, ig, z⟩ := Yb z
  obtain ⟨b7, o5, gt, ii, ij, ga⟩ := a2j (P := Tryz.prog) (r := rp_Expr) u22 sz24 x ig
  obtain ⟨jb, jc, jd, ik, hf⟩ := expr_iff.1 ij
  subst ik
  refine a2o Y Y Y Y ga (a1e Y Y Y Y (fun _ _ hleq hq => a4g ag24 sz24 Y Y hq (ii.mono hleq) Y Y Yn) ?_)
  obtain ⟨v7, hg, z⟩ := Yb z
  refine b4e ent69 Y Y Y Y (fun _ _ hleq hq => ih.2 _ _ _ hg hq.sat (m.mono hleq) (o.mono hleq) (p.mono hleq) (hf.mono hleq)) (a1e Y Y Y Y (fun _ _ _ _ => a0k Y Y Y Y Yn) (b1w (fun a ha => ?_)))
  cases z
  exact ha.cut (l := [48]) Y
  refine a0r 33 Y g3 (a0q Y (a1c (a1q (a0c (a0h (a2l (SH F [.box b2 24 [.int .i64 x1.Op, .int .i64 x1.N, vs x1.Name, .slice M R u], .box b1 64 [.slice G H k, .slice I J s, .int .i64 k1.facts.Persons, .int .i64 k1.facts.Flats, .slice K L t]]) 14 Y (by kernel_rfl) Z ?_))))))
  intro kw gb
  have S3 := gb.Ys Yf [0, 1] Y Y
  refine d_tk 0 Y (by kernel_rfl) Y Y Y Y S3 (fun _ _ _ _ hq => a0m ag64 sz64 Y Y hq Y (i := 1) Y Y Yn) (d_tk 1 Y (by kernel_rfl) Y Y Y Y S3 (fun _ _ _ _ _ => a0e fa24_3 Y Y Y Yn) (d_tk 2 Y (by kernel_rfl) Y Y Y Y S3 (fun _ _ _ _ hq => a0p ag22 Y Y hq Y (i := 0) Y Y Yn) ?_))
  obtain ⟨ex6, io, hm⟩ := Yb hm
  obtain ⟨b8, o6, gu, ip, iq, j0⟩ := a2j (P := Tryz.prog) (r := rp_Expr) u22 sz24 x io
  obtain ⟨hc, hd, he, ir, gf⟩ := expr_iff.1 iq
  subst ir
  refine b1v 3 Y (by kernel_rfl) (by kernel_rfl) (by kernel_rfl) Y Y Y Y j0 S3 (d_tk 4 Y (by kernel_rfl) Y Y Y Y S3 (fun _ _ _ hleq hq => a4g ag24 sz24 Y Y hq (ip.mono hleq) Y Y Yn) (d_tk 6 Y (by kernel_rfl) Y Y Y Y S3 (fun _ _ _ _ hq => a0m ag64 sz64 Y Y hq Y (i := 1) Y Y Yn) (d_tk 7 Y (by kernel_rfl) Y Y Y Y S3 (fun _ _ _ _ _ => a0e fa24_3 Y Y Y Yn) (d_tk 8 Y (by kernel_rfl) Y Y Y Y S3 (fun _ _ _ _ hq => a0p ag22 Y Y hq Y (i := 0) Y Y Yn) ?_))))
  obtain ⟨ex7, it, hm⟩ := Yb hm
  obtain ⟨b9, o7, gw, iu, iv, j1⟩ := a2j (P := Tryz.prog) (r := rp_Expr) u22 sz24 x it
  obtain ⟨hh, hi, hj, iw, gg⟩ := expr_iff.1 iv
  subst iw
  refine b1v 9 Y (by kernel_rfl) (by kernel_rfl) (by kernel_rfl) Y Y Y Y j1 S3 (d_tk 10 Y (by kernel_rfl) Y Y Y Y S3 (fun _ _ _ hleq hq => a4g ag24 sz24 Y Y hq (iu.mono hleq) Y Y Yn) (a1b 5 Y (by kernel_rfl) ?_))
  obtain ⟨v8, i6, hm⟩ := Yb hm
  refine a0i ent35 Y Y Y Y gb (ih.1 _ _ _ i6 gb.sat m o p gf) ?_
  rintro _ kz _ ky T g5 ⟨hk, hl, hn, hu, hv, hw, rfl, rfl, gh, gi⟩
  refine a0w (g5.Ys T [0, 1] Y Y) (a1b 11 Y (by kernel_rfl) ?_)
  obtain ⟨v9, id, hm⟩ := Yb hm
  refine a0i ent35 Y Y Y Y g5 (ih.1 _ _ _ id g5.sat (m.mono T) (o.mono T) (p.mono T) (gg.mono T)) ?_
  rintro _ i7 _ jf q gc ⟨hx, hy, hz, ji, jj, jk, rfl, rfl, gj, gk⟩
  refine a0w (gc.Ys (T.trans q) [0, 1] Y Y) (a1b 12 Y (by kernel_rfl) ?_)
  obtain ⟨v10, il, hm⟩ := Yb hm
  refine a0i ent16 Y Y Y Y gc (b2j _ _ _ _ il gc.sat (gh.mono q) (gi.mono q) gj gk) ?_
  rintro _ l0 _ jh gd U ⟨rfl, rfl⟩
  refine a0w (U.Ys ((T.trans q).trans gd) [0, 1] Y Y) (d_tk 13 Y (by kernel_rfl) Y Y Y Y (U.Ys ((T.trans q).trans gd) [0, 1] Y Y) (fun _ _ _ _ _ => a0b Y Y Y Yn) (a2x (by kernel_rfl) (a0c (a0h (a0h (a0a (a0e fa24_0 Y Y Y (a0p ag3 Y Y U Y (i := 0) Y Y (a0u Y Y Y Y Y ?_)))))))))
  refine a0g (a0c ?_)
  rcases a0f hm with ⟨iz, hm⟩ | ⟨iz, hm⟩
  refine a0r 64 Y iz (a0y Y (a0h (a0a (a0d Y Y Y (a0u Y Y Y Y Y (a0b Y Y Y (a0g (a0c (a1d (a0j (a1j Y Y ?_)))))))))))
  obtain rfl := Yo hm
  exact ⟨_, _, _, Y, U.Yp [] Y Y, Y, Y⟩
  refine a0r 64 Y iz (a0q Y (a1c (a0c (a0h (a0a (a0d Y Y Y (a0u Y Y Y Y Y (a0b Y Y Y (a0g (a0c (a1d (a1j Y Y ?_))))))))))))
  obtain rfl := Yo hm
  exact ⟨_, _, _, Y, U.Yp [] Y Y, Y, Y⟩
theorem b6v (n : Nat) (k1 : known) (x1 : Expr) (r : Frac) (hm : fee_known_number n k1 x1 = some r) {w : World} {F : Frz} (hs : Sat F w) {g h i j : Option Addr} {k l m o p q s t : Nat} (u : SlR Rp.str F g k l k1.names) (x : SlR (Rp.int .i64) F h m o k1.facts.Lifts) (y : SlR rp_Frac F i p q k1.weights) (z : SlR rp_Expr F j s t x1.Args) :
  Calls Tryz.prog 35 #[.agg #[.slice g k l, .slice h m o, .int .i64 k1.facts.Persons, .int .i64 k1.facts.Flats, .slice i p q], .agg #[.int .i64 x1.Op, .int .i64 x1.N, vs x1.Name, .slice j s t]] w fun e w' => ∃ v F' O', e = .returned v ∧ HS F w [] F' O' w' ∧ (∃ (a0_1 : Option Addr) (n0_1 : Nat) (c0_1 : Nat) (a0_3 : Option Addr) (n0_3 : Nat) (c0_3 : Nat), v = .agg #[.int .i64 r.P.Sign, .slice a0_1 n0_1 c0_1, .int .i64 r.Q.Sign, .slice a0_3 n0_3 c0_3] ∧ O' = [] ∧ SlR (Rp.int .i64) F' a0_1 n0_1 c0_1 r.P.Digits ∧ SlR (Rp.int .i64) F' a0_3 n0_3 c0_3 r.Q.Digits) :=
 (b5y n).1 k1 x1 r hm hs u x y z
theorem ent32 : Ent Tryz.prog 32 := fun _ _ => by kernel_rfl
theorem ag30 : b0r Tryz.prog 30 true := fun _ => by kernel_rfl
theorem sz30 : a5q Tryz.prog 30 3 := fun _ => by kernel_rfl
theorem ent33 : Ent Tryz.prog 33 := fun _ _ => by kernel_rfl
theorem ent34 : Ent Tryz.prog 34 := fun _ _ => by kernel_rfl
def a7h (n : Nat) (t1 : Tariff) (names1 : (List Bs)) (f1 : Facts) (weights1 : (List Frac)) : Option (Frac × Int) :=
 (a9t n t1 names1).bind fun v1 =>
 bif v1 != 0 then
  some ((⟨(⟨0, []⟩ : Big), (⟨0, []⟩ : Big)⟩ : Frac), v1)
 else
  (b5a n f1 weights1 (names1.length : Int)).bind fun v2 =>
  bif !v2 then
   some ((⟨(⟨0, []⟩ : Big), (⟨0, []⟩ : Big)⟩ : Frac), 1)
  else
   (fee_known_number n (⟨names1, f1, weights1⟩ : known) t1.Fee).bind fun v3 =>
   (b4m n v3).bind fun v4 =>
   some (v4, 0)
theorem b4y (n : Nat) (t1 : Tariff) (names1 : (List Bs)) (f1 : Facts) (weights1 : (List Frac)) (r : (Frac × Int)) (hm : a7h n t1 names1 f1 weights1 = some r) {w : World} {F : Frz} (hs : Sat F w) {m o p q : Option Addr} {s t u x y z G H : Nat} (R : SlR rp_Expr F m s t t1.Fee.Args) (I : SlR Rp.str F o u x names1) (T : SlR (Rp.int .i64) F p y z f1.Lifts) (U : SlR rp_Frac F q G H weights1) :
  Calls Tryz.prog 8 #[.agg #[vs t1.Name, .int .i64 t1.Fee.Op, .int .i64 t1.Fee.N, vs t1.Fee.Name, .slice m s t, .int .i64 t1.Cap], .slice o u x, .agg #[.slice p y z, .int .i64 f1.Persons, .int .i64 f1.Flats], .slice q G H] w fun e w' => ∃ v F' O', e = .returned v ∧ HS F w [] F' O' w' ∧ (∃ (a0_1 : Option Addr) (n0_1 : Nat) (c0_1 : Nat) (a0_3 : Option Addr) (n0_3 : Nat) (c0_3 : Nat), v = .tuple #[.agg #[.int .i64 r.1.P.Sign, .slice a0_1 n0_1 c0_1, .int .i64 r.1.Q.Sign, .slice a0_3 n0_3 c0_3], .int .i64 r.2] ∧ O' = [] ∧ SlR (Rp.int .i64) F' a0_1 n0_1 c0_1 r.1.P.Digits ∧ SlR (Rp.int .i64) F' a0_3 n0_3 c0_3 r.1.Q.Digits) := by
 unfold a7h at hm
 have h := HS.init hs
 refine a1a 33 Tryz.func8 Y Y Y (a0h (a0a (a2i Y Y Y Y h ?_)))
 intro b1 gj g7
 refine a2i Y Y Y Y g7 ?_
 intro b2 gk g8
 refine a1f ze37 Y Y Y g8 ?_
 intro b3 gl J
 refine a0b Y Y Y (a0g (a0c (a0h (a0h (a0a (a0m ag26 sz26 Y Y J Y (i := 2) Y Y (a0d Y Y Y ?_)))))))
 obtain ⟨v1, g9, hm⟩ := Yb hm
 refine a0i ent32 Y Y Y Y J (c0j _ _ _ _ g9 J.sat R I) ?_
 rintro _ gm _ gn g k ⟨rfl, rfl⟩
 refine a0b Y Y Y (a0g (a0c (a0h (a0a (a0d Y Y Y (a0u Y Y Y Y Y (a0g (a0c ?_))))))))
 rcases a0f hm with ⟨K, hm⟩ | ⟨K, hm⟩
 refine a0r 15 Y K (a0y Y (a0h (a0a (a1y (v := .agg #[.int .i64 0, .slice none 0 0, .int .i64 0, .slice none 0 0]) Y Y Y (fun _ => by kernel_rfl) (a0d Y Y Y (a0s sz37 Y k Y Y Y Y (i := 0) Y Y Y Y ?_))))))
 intro go V
 refine a0b Y Y Y (a0g (a0c (a1d (a0j (a1o (vl := [.agg #[.int .i64 0, .slice none 0 0, .int .i64 0, .slice none 0 0], .int .i64 v1]) Y ⟨a2d ag37 sz37 Y V Y (i := 0) Y, a1r Y, trivial⟩ (by simp) ?_)))))
 obtain rfl := Yo hm
 exact ⟨_, _, _, Y, V.Yp [] Y Y, none, 0, 0, none, 0, 0, Y, Y, SlR.nil _ _, SlR.nil _ _⟩
 refine a0r 15 Y K (a0q Y (a1c (a0c (a0h (a0h (a0a (a0m ag30 sz30 Y Y k Y (i := 1) Y Y (a0d Y Y Y (a0d Y Y Y (a1x I.len u27 Y Y Y ?_))))))))))
 obtain ⟨v2, ga, hm⟩ := Yb hm
 refine a0i ent33 Y Y Y Y k (c4h _ _ _ _ _ ga k.sat (T.mono g) (U.mono g)) ?_
 rintro _ gp _ gq l j ⟨rfl, rfl⟩
 refine a3d Y Y Y (a0g (a0c ?_))
 rcases a0f hm with ⟨L, hm⟩ | ⟨L, hm⟩
 refine a0r 23 Y L (a0y Y (a0h (a0a (a1y (v := .agg #[.int .i64 0, .slice none 0 0, .int .i64 0, .slice none 0 0]) Y Y Y (fun _ => by kernel_rfl) (a0s sz37 Y j Y Y Y Y (i := 0) Y Y Y Y ?_)))))
 intro gr Z
 refine a0b Y Y Y (a0g (a0c (a1d (a0j (a1o (vl := [.agg #[.int .i64 0, .slice none 0 0, .int .i64 0, .slice none 0 0], .int .i64 1]) Y ⟨a2d ag37 sz37 Y Z Y (i := 0) Y, a1r Y, trivial⟩ (by simp) ?_)))))
 obtain rfl := Yo hm
 exact ⟨_, _, _, Y, Z.Yp [] Y Y, none, 0, 0, none, 0, 0, Y, Y, SlR.nil _ _, SlR.nil _ _⟩
 refine a0r 23 Y L (a0q Y (a1c (a0c (a0h (a0a (a0d Y Y Y (a0m ag30 sz30 Y Y j Y (i := 1) Y Y (a0d Y Y Y (a1y (v := .agg #[.slice o u x, .slice p y z, .int .i64 f1.Persons, .int .i64 f1.Flats, .slice q G H]) Y Y Y (fun _ => by kernel_rfl) (a0e fa26_1 Y Y Y (a1u (cs' := [.int .i64 t1.Fee.Op, .int .i64 t1.Fee.N, vs t1.Fee.Name, .slice m s t]) ag24 sz24 Y Y j Y (i := 2) Y Y Y ?_)))))))))))
 obtain ⟨v3, gb, hm⟩ := Yb hm
 refine a0i ent35 Y Y Y Y j (b6v _ _ _ _ gb j.sat ((I.mono g).mono l) ((T.mono g).mono l) ((U.mono g).mono l) ((R.mono g).mono l)) ?_
 rintro _ gs _ gt gu g0 ⟨gv, gw, gx, gy, gz, h0, rfl, rfl, gc, gd⟩
 obtain ⟨v4, ge, hm⟩ := Yb hm
 refine a0i ent34 Y Y Y Y g0 (c5k _ _ _ ge g0.sat gc gd) ?_
 rintro _ h1 _ h2 h3 gf ⟨g1, g2, g3, g4, g5, g6, rfl, rfl, gg, gh⟩
 refine a0s sz37 Y gf Y Y Y Y (i := 0) Y Y Y Y ?_
 intro gi M
 refine a0b Y Y Y (a0g (a0c (a1d (a1o (vl := [.agg #[.int .i64 v4.P.Sign, .slice g1 g2 g3, .int .i64 v4.Q.Sign, .slice g4 g5 g6], .int .i64 0]) Y ⟨a2d ag37 sz37 Y M Y (i := 0) Y, a1r Y, trivial⟩ (by simp) ?_))))
 obtain rfl := Yo hm
 exact ⟨_, _, _, Y, M.Yp [] Y Y, g1, g2, g3, g4, g5, g6, Y, Y, gg, gh⟩
theorem ent8 : Ent Tryz.prog 8 := fun _ _ => by kernel_rfl
def a9r (n : Nat) (t1 : Tariff) (names1 : (List Bs)) (f1 : Facts) (weights1 : (List Frac)) : Option (Frac × Int) :=
 (a7h n t1 names1 f1 weights1).bind fun v1 =>
 bif v1.2 != 0 then
  some ((⟨(⟨0, []⟩ : Big), (⟨0, []⟩ : Big)⟩ : Frac), v1.2)
 else
  (b3i n v1.1).bind fun v2 =>
  bif decide (v2 < 0) then
   (a7f n 0).bind fun v3 =>
   some (v3, 0)
  else
   (bif t1.Cap != (-1) then
    (a7f n t1.Cap).bind fun v6 =>
    (a6z n v1.1 v6).bind fun v7 =>
    some (decide (0 < v7))
   else
    some false).bind fun v4 =>
   bif v4 then
    (a7f n t1.Cap).bind fun v5 =>
    some (v5, 0)
   else
    some (v1.1, 0)
theorem b7h (n : Nat) (t1 : Tariff) (names1 : (List Bs)) (f1 : Facts) (weights1 : (List Frac)) (r : (Frac × Int)) (hm : a9r n t1 names1 f1 weights1 = some r) {w : World} {F : Frz} (hs : Sat F w) {p gb q gc : Option Addr} {s t gd ge u x gf gg : Nat} (gz : SlR rp_Expr F p s t t1.Fee.Args) (h0 : SlR Rp.str F gb gd ge names1) (h1 : SlR (Rp.int .i64) F q u x f1.Lifts) (h2 : SlR rp_Frac F gc gf gg weights1) :
  Calls Tryz.prog 10 #[.agg #[vs t1.Name, .int .i64 t1.Fee.Op, .int .i64 t1.Fee.N, vs t1.Fee.Name, .slice p s t, .int .i64 t1.Cap], .slice gb gd ge, .agg #[.slice q u x, .int .i64 f1.Persons, .int .i64 f1.Flats], .slice gc gf gg] w fun e w' => ∃ v F' O', e = .returned v ∧ HS F w [] F' O' w' ∧ (∃ (a0_1 : Option Addr) (n0_1 : Nat) (c0_1 : Nat) (a0_3 : Option Addr) (n0_3 : Nat) (c0_3 : Nat), v = .tuple #[.agg #[.int .i64 r.1.P.Sign, .slice a0_1 n0_1 c0_1, .int .i64 r.1.Q.Sign, .slice a0_3 n0_3 c0_3], .int .i64 r.2] ∧ O' = [] ∧ SlR (Rp.int .i64) F' a0_1 n0_1 c0_1 r.1.P.Digits ∧ SlR (Rp.int .i64) F' a0_3 n0_3 c0_3 r.1.Q.Digits) := by
 unfold a9r at hm
 have h := HS.init hs
 refine a1a 46 Tryz.func10 Y Y Y (a0h (a0a (a2i Y Y Y Y h ?_)))
 intro b1 hz h3
 refine a2i Y Y Y Y h3 ?_
 intro b2 i0 h4
 refine a1f ze37 Y Y Y h4 ?_
 intro b3 i1 y
 refine a0b Y Y Y (a0g (a0c (a0h (a0a (a0m ag26 sz26 Y Y y Y (i := 2) Y Y (a0d Y Y Y (a0m ag30 sz30 Y Y y Y (i := 1) Y Y (a0d Y Y Y ?_))))))))
 obtain ⟨v1, h5, hm⟩ := Yb hm
 refine a0i ent8 Y Y Y Y y (b4y _ _ _ _ _ _ h5 y.sat gz h0 h1 h2) ?_
 rintro _ i2 _ i3 i4 h6 ⟨z, G, H, I, J, K, rfl, rfl, R, T⟩
 refine a0d Y Y Y (a0l Y Y Y Y (a0l Y Y Y Y (a1f ze37 Y Y Y h6 ?_)))
 intro b4 i5 h7
 refine a0s sz37 Y h7 Y Y Y Y (i := 0) Y Y Y Y ?_
 intro i6 L
 refine a0b Y Y Y (a0g (a0c (a0h (a1i (a0h (a0a (a0d Y Y Y (a0u Y Y Y Y Y (a0b Y Y Y (a0g (a0c ?_)))))))))))
 rcases a0f hm with ⟨U, hm⟩ | ⟨U, hm⟩
 refine a0r 20 Y U (a0y Y (a0h (a0a (a1y (v := .agg #[.int .i64 0, .slice none 0 0, .int .i64 0, .slice none 0 0]) Y Y Y (fun _ => by kernel_rfl) (a0d Y Y Y (a0s sz37 Y L Y Y Y Y (i := 1) Y Y Y Y ?_))))))
 intro i7 gh
 refine a0b Y Y Y (a0g (a0c (a1d (a0v (a0j (a1o (vl := [.agg #[.int .i64 0, .slice none 0 0, .int .i64 0, .slice none 0 0], .int .i64 v1.2]) Y ⟨a2d ag37 sz37 Y gh Y (i := 1) Y, a1r Y, trivial⟩ (by simp) ?_))))))
 obtain rfl := Yo hm
 exact ⟨_, _, _, Y, gh.Yp [] Y Y, none, 0, 0, none, 0, 0, Y, Y, SlR.nil _ _, SlR.nil _ _⟩
 refine a0r 20 Y U (a0q Y (a0h (a0a (a0m ag37 sz37 Y Y L Y (i := 0) Y Y ?_))))
 obtain ⟨v2, h8, hm⟩ := Yb hm
 refine a0i ent15 Y Y Y Y L (b8i _ _ _ h8 L.sat R T) ?_
 rintro _ gi _ i8 M V ⟨rfl, rfl⟩
 refine a0u Y Y Y Y Y (a0b Y Y Y (a0g (a0c ?_)))
 rcases a0f hm with ⟨Z, hm⟩ | ⟨Z, hm⟩
 refine a0r 25 Y Z (a0y Y (a0h (a0a ?_)))
 obtain ⟨v3, h9, hm⟩ := Yb hm
 refine a0i ent40 Y Y Y Y V (a9j _ _ _ h9 V.sat) ?_
 rintro _ i9 _ ia ib hb ⟨gj, gk, gl, gm, gn, go, rfl, rfl, hc, hd⟩
 refine a0s sz37 Y hb Y Y Y Y (i := 1) Y Y Y Y ?_
 intro hi g0
 refine a0b Y Y Y (a0g (a0c (a1d (a0v (a0j (a1o (vl := [.agg #[.int .i64 v3.P.Sign, .slice gj gk gl, .int .i64 v3.Q.Sign, .slice gm gn go], .int .i64 0]) Y ⟨a2d ag37 sz37 Y g0 Y (i := 1) Y, a1r Y, trivial⟩ (by simp) ?_))))))
 obtain rfl := Yo hm
 exact ⟨_, _, _, Y, g0.Yp [] Y Y, gj, gk, gl, gm, gn, go, Y, Y, hc, hd⟩
 refine a0r 25 Y Z (a0q Y (a0h (a2l (SH gi [.box b4 37 [.int .i64 v1.1.P.Sign, .slice z G H, .int .i64 v1.1.Q.Sign, .slice I J K], .box b3 37 [.int .i64 0, .slice none 0 0, .int .i64 0, .slice none 0 0], .box b2 30 [.slice q u x, .int .i64 f1.Persons, .int .i64 f1.Flats], .box b1 26 [vs t1.Name, .int .i64 t1.Fee.Op, .int .i64 t1.Fee.N, vs t1.Fee.Name, .slice p s t, .int .i64 t1.Cap]]) 12 Y (by kernel_rfl) V ?_)))
 intro hj k
 have S0 := k.Ys Yf [0, 1, 2, 3] Y Y
 refine d_tk 0 Y (by kernel_rfl) Y Y Y Y S0 (fun _ _ _ _ _ => a0e fa26_2 Y Y Y Yn) (d_tk 1 Y (by kernel_rfl) Y Y Y Y S0 (fun _ _ _ _ hq => a0p ag3 Y Y hq Y (i := 3) Y Y Yn) (d_tk 2 Y (by kernel_rfl) Y Y Y Y S0 (fun _ _ _ _ _ => a0u Y Y Y Y Y Yn) (d_tk 3 Y (by kernel_rfl) Y Y Y Y S0 (fun _ _ _ _ _ => a0d Y Y Y Yn) ?_)))
 obtain ⟨v4, g, hm⟩ := Yb hm
 refine c5c (fuel' := 1) (listed' := #[true, true, true, true, true, true, true, true, true, true, true, false]) (fun a w' => ∃ (g1 : Frz), Frz.le gi g1 ∧ HS F w [] g1 [.box b4 37 [.int .i64 v1.1.P.Sign, .slice z G H, .int .i64 v1.1.Q.Sign, .slice I J K], .box b3 37 [.int .i64 0, .slice none 0 0, .int .i64 0, .slice none 0 0], .box b2 30 [.slice q u x, .int .i64 f1.Persons, .int .i64 f1.Flats], .box b1 26 [vs t1.Name, .int .i64 t1.Fee.Op, .int .i64 t1.Fee.N, vs t1.Fee.Name, .slice p s t, .int .i64 t1.Cap]] w' ∧ Has 46 a [(4, .pointer (some ⟨b1, 0, none⟩)), (8, .pointer (some ⟨b3, 0, none⟩)), (10, .pointer (some ⟨b4, 0, none⟩)), (41, .bool v4)]) ?_ (fun gp => ?_)
 rintro a hk ⟨g1, g2, j, gu⟩
 refine b2p gu (d_tk 11 Y (by kernel_rfl) Y Y Y Y (j.Ys g2 [0, 1, 2, 3] Y Y) (fun _ _ _ _ _ => a0b Y Y Y Yn) (a2x (by kernel_rfl) (a0c ?_)))
 rcases a0f hm with ⟨g3, hm⟩ | ⟨g3, hm⟩
 refine a0r 30 Y g3 (a0y Y (a0h (a0a (a0e fa26_2 Y Y Y (a0p ag3 Y Y j Y (i := 3) Y Y ?_)))))
 obtain ⟨v5, he, hm⟩ := Yb hm
 refine a0i ent40 Y Y Y Y j (a9j _ _ _ he j.sat) ?_
 rintro _ ic _ hl id gv ⟨gq, gr, gs, g4, g5, g6, rfl, rfl, hf, gw⟩
 refine a0s sz37 Y gv Y Y Y Y (i := 1) Y Y Y Y ?_
 intro hn g7
 refine a0b Y Y Y (a0g (a0c (a1d (a0v (a0j (a1o (vl := [.agg #[.int .i64 v5.P.Sign, .slice gq gr gs, .int .i64 v5.Q.Sign, .slice g4 g5 g6], .int .i64 0]) Y ⟨a2d ag37 sz37 Y g7 Y (i := 1) Y, a1r Y, trivial⟩ (by simp) ?_))))))
 obtain rfl := Yo hm
 exact ⟨_, _, _, Y, g7.Yp [] Y Y, gq, gr, gs, g4, g5, g6, Y, Y, hf, gw⟩
 refine a0r 30 Y g3 (a0q Y (a1c (a1q (a0c (a0h (a0a (a0m ag37 sz37 Y Y j Y (i := 0) Y Y (a0s sz37 Y j Y Y Y Y (i := 1) Y Y Y Y ?_))))))))
 intro ho g8
 refine a0b Y Y Y (a0g (a0c (a1d (a1o (vl := [.agg #[.int .i64 v1.1.P.Sign, .slice z G H, .int .i64 v1.1.Q.Sign, .slice I J K], .int .i64 0]) Y ⟨a2d ag37 sz37 Y g8 Y (i := 1) Y, a1r Y, trivial⟩ (by simp) ?_))))
 obtain rfl := Yo hm
 exact ⟨_, _, _, Y, g8.Yp [] Y Y, z, G, H, I, J, K, Y, Y, ((R.mono M).mono g2), ((T.mono M).mono g2)⟩
 clear hm
 rcases a0f g with ⟨g9, g⟩ | ⟨g9, g⟩
 refine b5z 34 Y g9 (d_tk 4 Y (by kernel_rfl) Y Y Y Y S0 (fun _ _ _ _ hq => a0m ag37 sz37 Y Y hq Y (i := 0) Y Y Yn) (d_tk 5 Y (by kernel_rfl) Y Y Y Y S0 (fun _ _ _ _ _ => a0e fa26_2 Y Y Y Yn) (d_tk 6 Y (by kernel_rfl) Y Y Y Y S0 (fun _ _ _ _ hq => a0p ag3 Y Y hq Y (i := 3) Y Y Yn) (a1b 7 Y (by kernel_rfl) ?_))))
 obtain ⟨v6, hg, g⟩ := Yb g
 refine a0i ent40 Y Y Y Y k (a9j _ _ _ hg k.sat) ?_
 rintro _ ie _ hp m o ⟨hr, ht, hu, hv, hw, hx, rfl, rfl, gx, gy⟩
 refine a0w (o.Ys m [0, 1, 2, 3] Y Y) (a1b 8 Y (by kernel_rfl) ?_)
 obtain ⟨v7, hh, g⟩ := Yb g
 refine a0i ent16 Y Y Y Y o (b2j _ _ _ _ hh o.sat ((R.mono M).mono m) ((T.mono M).mono m) gx gy) ?_
 rintro _ ig _ hy gt ga ⟨rfl, rfl⟩
 have S1 := ga.Ys (m.trans gt) [0, 1, 2, 3] Y Y
 refine a0w S1 (d_tk 9 Y (by kernel_rfl) Y Y Y Y S1 (fun _ _ _ _ _ => a0u Y Y Y Y Y Yn) (d_tk 10 Y (by kernel_rfl) Y Y Y Y S1 (fun _ _ _ _ _ => a0n Y Y Y Y Yn) (b6a gp (by kernel_rfl) (fun a ha => ?_))))
 cases g
 exact ⟨_, (m.trans gt), ga.Yp [0, 1, 2, 3] Y Y, ha.cut (l := [4, 8, 10, 41]) Y⟩
 refine b5z 34 Y g9 (d_of 4 Y (by kernel_rfl) Y Y Y S0 (d_of 5 Y (by kernel_rfl) Y Y Y S0 (d_of 6 Y (by kernel_rfl) Y Y Y S0 (d_of 7 Y (by kernel_rfl) Y Y Y S0 (d_of 8 Y (by kernel_rfl) Y Y Y S0 (d_of 9 Y (by kernel_rfl) Y Y Y S0 ?_))))))
 refine d_tk 10 Y (by kernel_rfl) Y Y Y Y S0 (fun _ _ _ _ _ => a0k Y Y Y Y Yn) (b6a gp (by kernel_rfl) (fun a ha => ?_))
 cases g
 exact ⟨_, Yf, k.Yp [0, 1, 2, 3] Y Y, ha.cut (l := [4, 8, 10, 41]) Y⟩
theorem ent31 : Ent Tryz.prog 31 := fun _ _ => by kernel_rfl
theorem ent13 : Ent Tryz.prog 13 := fun _ _ => by kernel_rfl
def a6l (n : Nat) (weights1 : (List Frac)) (kont1 : Option Bool) : Nat → Int → Option Bool
 | 0, _ => none
 | mx1 + 1, i2 =>
  (bif decide (i2 < (weights1.length : Int)) then
   some (decide (i2 < 10))
  else
   some false).bind fun v6 =>
  bif v6 then
   (ix weights1 i2).bind fun ex1 =>
   (b1f n ex1 4).bind fun v7 =>
   bif !v7 then
    some false
   else
    a6l n weights1 kont1 mx1 (iadd .i64 i2 1)
  else
   kont1
theorem b1a (n : Nat) (weights1 : (List Frac)) (kont1 : Option Bool) (mx1 : Nat) (i2 : Int) : a6l n weights1 kont1 (mx1 + 1) i2 =
  (bif decide (i2 < (weights1.length : Int)) then
   some (decide (i2 < 10))
  else
   some false).bind fun v6 =>
  bif v6 then
   (ix weights1 i2).bind fun ex1 =>
   (b1f n ex1 4).bind fun v7 =>
   bif !v7 then
    some false
   else
    a6l n weights1 kont1 mx1 (iadd .i64 i2 1)
  else
   kont1 := rfl
def a8c (n : Nat) (names1 : (List Bs)) (kont2 : Option Bool) : Nat → Int → Option Bool
 | 0, _ => none
 | mx2 + 1, i1 =>
  (bif decide (i1 < (names1.length : Int)) then
   some (decide (i1 < 10))
  else
   some false).bind fun v8 =>
  bif v8 then
   (ix names1 i1).bind fun ex2 =>
   bif decide (30 < (ex2.length : Int)) then
    some false
   else
    a8c n names1 kont2 mx2 (iadd .i64 i1 1)
  else
   kont2
theorem b1b (n : Nat) (names1 : (List Bs)) (kont2 : Option Bool) (mx2 : Nat) (i1 : Int) : a8c n names1 kont2 (mx2 + 1) i1 =
  (bif decide (i1 < (names1.length : Int)) then
   some (decide (i1 < 10))
  else
   some false).bind fun v8 =>
  bif v8 then
   (ix names1 i1).bind fun ex2 =>
   bif decide (30 < (ex2.length : Int)) then
    some false
   else
    a8c n names1 kont2 mx2 (iadd .i64 i1 1)
  else
   kont2 := rfl
def b5q (n : Nat) (t1 : Tariff) (names1 : (List Bs)) (f1 : Facts) (weights1 : (List Frac)) : Option Bool :=
 a8c n names1 (
  a6l n weights1 (
   (a7i n t1.Fee 60 12).bind fun v1 =>
   (bif v1 then
    some (decide ((t1.Name.length : Int) ≤ 30))
   else
    some false).bind fun v2 =>
   (bif v2 then
    some (decide ((names1.length : Int) ≤ 8))
   else
    some false).bind fun v3 =>
   (bif v3 then
    some (decide ((f1.Lifts.length : Int) ≤ 8))
   else
    some false).bind fun v4 =>
   (bif v4 then
    some (decide ((weights1.length : Int) ≤ 8))
   else
    some false).bind fun v5 =>
   some v5) n 0) n 0
theorem c5d (n : Nat) (t1 : Tariff) (names1 : (List Bs)) (f1 : Facts) (weights1 : (List Frac)) (r : Bool) (hm : b5q n t1 names1 f1 weights1 = some r) {w : World} {F : Frz} (hs : Sat F w) {z q g0 g : Option Addr} {G x t k g1 g2 o p : Nat} (gw : SlR rp_Expr F z G x t1.Fee.Args) (g5 : SlR Rp.str F q t k names1) (gx : SlR (Rp.int .i64) F g0 g1 g2 f1.Lifts) (g6 : SlR rp_Frac F g o p weights1) :
  Calls Tryz.prog 7 #[.agg #[vs t1.Name, .int .i64 t1.Fee.Op, .int .i64 t1.Fee.N, vs t1.Fee.Name, .slice z G x, .int .i64 t1.Cap], .slice q t k, .agg #[.slice g0 g1 g2, .int .i64 f1.Persons, .int .i64 f1.Flats], .slice g o p] w fun e w' => ∃ v F' O', e = .returned v ∧ HS F w [] F' O' w' ∧ (v = .bool r ∧ O' = []) := by
 unfold b5q at hm
 have h := HS.init hs
 refine a1a 68 Tryz.func7 Y Y Y (a0h (a0a (a2i Y Y Y Y h ?_)))
 intro b1 hi gy
 refine a2i Y Y Y Y gy ?_
 intro b2 g7 g8
 refine a0b Y Y Y (a0g (a0c (a0h (a0h (a0a (a0b Y Y Y (a0g (a0c (a1i ?_)))))))))
 intro a gi
 obtain ⟨kont2, hkont2⟩ : ∃ kont2 : Option Bool, kont2 = ( a6l n weights1 ( (a7i n t1.Fee 60 12).bind fun v1 => (bif v1 then some (decide ((t1.Name.length : Int) ≤ 30)) else some false).bind fun v2 => (bif v2 then some (decide ((names1.length : Int) ≤ 8)) else some false).bind fun v3 => (bif v3 then some (decide ((f1.Lifts.length : Int) ≤ 8)) else some false).bind fun v4 => (bif v4 then some (decide ((weights1.length : Int) ≤ 8)) else some false).bind fun v5 => some v5) n 0) := ⟨_, Y⟩
 replace hm : (fun m (s : Int) => a8c n names1 kont2 m s) n 0 = some r := by rw [hkont2]; exact hm
 refine a5p (id := 0) (fun m (s : Int) => a8c n names1 kont2 m s) (fun (y : Unit) => kont2) r (fun (s : Int) a w' => g7 = w' ∧ Has 68 a [(1, .slice q t k), (3, .slice g o p), (4, .pointer (some ⟨b1, 0, none⟩)), (6, .pointer (some ⟨b2, 0, none⟩)), (9, .int .i64 s)]) (fun (y : Unit) a w' => g7 = w' ∧ Has 68 a [(1, .slice q t k), (3, .slice g o p), (4, .pointer (some ⟨b1, 0, none⟩)), (6, .pointer (some ⟨b2, 0, none⟩))]) (fun _ => Y) ?_ ?_ hm ⟨Y, gi.cut (l := [1, 3, 4, 6, 9]) Y⟩
 clear hm; rintro _u a hj hm ⟨rfl, gm⟩
 rw [hkont2] at hm
 refine a2g (e := .exit 0) gm (a1k (a0c (a0h (a0h (a0a (a0b Y Y Y (a0g (a0c (a1i ?_)))))))))
 intro a gn
 obtain ⟨kont1, hkont1⟩ : ∃ kont1 : Option Bool, kont1 = ( (a7i n t1.Fee 60 12).bind fun v1 => (bif v1 then some (decide ((t1.Name.length : Int) ≤ 30)) else some false).bind fun v2 => (bif v2 then some (decide ((names1.length : Int) ≤ 8)) else some false).bind fun v3 => (bif v3 then some (decide ((f1.Lifts.length : Int) ≤ 8)) else some false).bind fun v4 => (bif v4 then some (decide ((weights1.length : Int) ≤ 8)) else some false).bind fun v5 => some v5) := ⟨_, Y⟩
 replace hm : (fun m (s : Int) => a6l n weights1 kont1 m s) n 0 = some r := by rw [hkont1]; exact hm
 refine a5p (id := 2) (fun m (s : Int) => a6l n weights1 kont1 m s) (fun (y : Unit) => kont1) r (fun (s : Int) a w' => ∃ (g9 : Frz), Frz.le F g9 ∧ HS F w [] g9 [.box b2 30 [.slice g0 g1 g2, .int .i64 f1.Persons, .int .i64 f1.Flats], .box b1 26 [vs t1.Name, .int .i64 t1.Fee.Op, .int .i64 t1.Fee.N, vs t1.Fee.Name, .slice z G x, .int .i64 t1.Cap]] w' ∧ Has 68 a [(1, .slice q t k), (3, .slice g o p), (4, .pointer (some ⟨b1, 0, none⟩)), (6, .pointer (some ⟨b2, 0, none⟩)), (10, .int .i64 s)]) (fun (y : Unit) a w' => ∃ (ga : Frz), Frz.le F ga ∧ HS F w [] ga [.box b2 30 [.slice g0 g1 g2, .int .i64 f1.Persons, .int .i64 f1.Flats], .box b1 26 [vs t1.Name, .int .i64 t1.Fee.Op, .int .i64 t1.Fee.N, vs t1.Fee.Name, .slice z G x, .int .i64 t1.Cap]] w' ∧ Has 68 a [(1, .slice q t k), (3, .slice g o p), (4, .pointer (some ⟨b1, 0, none⟩)), (6, .pointer (some ⟨b2, 0, none⟩))]) (fun _ => Y) ?_ ?_ hm ⟨_, Yf, g8.Yp [0, 1] Y Y, gn.cut (l := [1, 3, 4, 6, 10]) Y⟩
 clear hm; rintro _u a hk hm ⟨ga, gz, gb, go⟩
 rw [hkont1] at hm
 refine a2g (e := .exit 2) go (a1k (a0c (a0h (a0a (a0e fa26_1 Y Y Y (a1u (cs' := [.int .i64 t1.Fee.Op, .int .i64 t1.Fee.N, vs t1.Fee.Name, .slice z G x]) ag24 sz24 Y Y gb Y (i := 1) Y Y Y ?_))))))
 obtain ⟨v1, h0, hm⟩ := Yb hm
 refine a0i ent31 Y Y Y Y gb (b8o _ _ _ _ _ h0 gb.sat (gw.mono gz)) ?_
 rintro _ hl _ g3 hn gc ⟨rfl, rfl⟩
 refine a0d Y Y Y ?_
 obtain ⟨v2, H, hm⟩ := Yb hm
 refine a1z 5 (fun a w' => g3 = w' ∧ Has 68 a [(1, .slice q t k), (3, .slice g o p), (6, .pointer (some ⟨b2, 0, none⟩)), (51, .bool v2)]) ?_ ?_
 rintro a ho ⟨rfl, gp⟩
 refine a0z gp (a0d Y Y Y ?_)
 obtain ⟨v3, I, hm⟩ := Yb hm
 refine a1z 4 (fun a w' => g3 = w' ∧ Has 68 a [(3, .slice g o p), (6, .pointer (some ⟨b2, 0, none⟩)), (56, .bool v3)]) ?_ ?_
 rintro a hp ⟨rfl, gq⟩
 refine a0z gq (a0d Y Y Y ?_)
 obtain ⟨v4, J, hm⟩ := Yb hm
 refine a1z 5 (fun a w' => g3 = w' ∧ Has 68 a [(3, .slice g o p), (62, .bool v4)]) ?_ ?_
 rintro a hq ⟨rfl, gr⟩
 refine a0z gr (a0d Y Y Y ?_)
 obtain ⟨v5, L, hm⟩ := Yb hm
 refine a1z 4 (fun a w' => g3 = w' ∧ Has 68 a [(67, .bool v5)]) ?_ ?_
 rintro a hr ⟨rfl, gs⟩
 refine a0z gs (a0b Y Y Y (a0g (a0c (a1d (a1j Y Y ?_)))))
 obtain rfl := Yo hm
 exact ⟨_, _, _, Y, gc.Yp [] Y Y, Y, Y⟩
 clear hm
 rcases a0f L with ⟨gd, L⟩ | ⟨gd, L⟩
 refine a1g 63 Y gd (a0d Y Y Y (a1x g6.len u31 Y Y Y (a0u Y Y Y Y Y (a0n Y Y Y Y (a0g (a0o (fun a ha => ?_)))))))
 cases L
 exact ⟨Y, ha.cut (l := [67]) Y⟩
 refine a1g 63 Y gd (a0t Y (by decide) Y (a0t Y (by decide) Y (a0t Y (by decide) Y (a0k Y Y Y Y (a0g (a0o (fun a ha => ?_)))))))
 cases L
 exact ⟨Y, ha.cut (l := [67]) Y⟩
 clear hm
 rcases a0f J with ⟨ge, J⟩ | ⟨ge, J⟩
 refine a1g 57 Y ge (a0e fa30_0 Y Y Y (a0p ag28 Y Y gc Y (i := 0) Y Y (a1x gx.len u28 Y Y Y (a0u Y Y Y Y Y (a0n Y Y Y Y (a0g (a0o (fun a ha => ?_))))))))
 cases J
 exact ⟨Y, ha.cut (l := [3, 62]) Y⟩
 refine a1g 57 Y ge (a0t Y (by decide) Y (a0t Y (by decide) Y (a0t Y (by decide) Y (a0t Y (by decide) Y (a0k Y Y Y Y (a0g (a0o (fun a ha => ?_))))))))
 cases J
 exact ⟨Y, ha.cut (l := [3, 62]) Y⟩
 clear hm
 rcases a0f I with ⟨gf, I⟩ | ⟨gf, I⟩
 refine a1g 52 Y gf (a0d Y Y Y (a1x g5.len u27 Y Y Y (a0u Y Y Y Y Y (a0n Y Y Y Y (a0g (a0o (fun a ha => ?_)))))))
 cases I
 exact ⟨Y, ha.cut (l := [3, 6, 56]) Y⟩
 refine a1g 52 Y gf (a0t Y (by decide) Y (a0t Y (by decide) Y (a0t Y (by decide) Y (a0k Y Y Y Y (a0g (a0o (fun a ha => ?_)))))))
 cases I
 exact ⟨Y, ha.cut (l := [3, 6, 56]) Y⟩
 clear hm
 rcases a0f H with ⟨gg, H⟩ | ⟨gg, H⟩
 refine a1g 46 Y gg (a0e fa26_0 Y Y Y (a0p ag9 Y Y gc Y (i := 1) Y Y (b8j u9 Y Y Y (a0u Y Y Y Y Y (a0n Y Y Y Y (a0g (a0o (fun a ha => ?_))))))))
 cases H
 exact ⟨Y, ha.cut (l := [1, 3, 6, 51]) Y⟩
 refine a1g 46 Y gg (a0t Y (by decide) Y (a0t Y (by decide) Y (a0t Y (by decide) Y (a0t Y (by decide) Y (a0k Y Y Y Y (a0g (a0o (fun a ha => ?_))))))))
 cases H
 exact ⟨Y, ha.cut (l := [1, 3, 6, 51]) Y⟩
 clear hm hkont1; intro hk1 mx1 K ihx1
 rintro i2 a gt hm ⟨g9, gh, g4, gu⟩
 simp only [b1a] at hm
 refine a1n gu (a0h (a0h (a0a (a0d Y Y Y (a0d Y Y Y (a1x g6.len u31 Y Y Y (a0u Y Y Y Y Y (a0d Y Y Y ?_))))))))
 obtain ⟨v6, M, hm⟩ := Yb hm
 refine a1z 3 (fun a w' => gt = w' ∧ Has 68 a [(1, .slice q t k), (3, .slice g o p), (4, .pointer (some ⟨b1, 0, none⟩)), (6, .pointer (some ⟨b2, 0, none⟩)), (10, .int .i64 i2), (34, .bool v6)]) ?_ ?_
 rintro a he ⟨rfl, gv⟩
 refine a0z gv (a0g (a0c ?_))
 rcases a0f hm with ⟨Q, hm⟩ | ⟨Q, hm⟩
 refine a0r 34 Y Q (a0y Y (a1c (a0c (a0h (a1i (a0h (a0a (a0d Y Y Y (a0d Y Y Y ?_)))))))))
 obtain ⟨ex1, h1, hm⟩ := Yb hm
 refine a2e (r := rp_Frac) u31 sz37 Y Y Y Y (g6.mono gh) h1 ?_
 intro b3 o1 x h2 h3
 obtain ⟨ht, hu, hv, hw, hx, hy, h4, h5, h6⟩ := h3
 subst h4
 refine a4g ag37 sz37 Y Y g4 h2 Y Y ?_
 obtain ⟨v7, h7, hm⟩ := Yb hm
 refine a0i ent13 Y Y Y Y g4 (c4g _ _ _ _ h7 g4.sat h5 h6) ?_
 rintro _ hz _ hf h8 gl ⟨rfl, rfl⟩
 refine a3d Y Y Y (a0g (a0c ?_))
 rcases a0f hm with ⟨R, hm⟩ | ⟨R, hm⟩
 refine a0r 42 Y R (a0y Y (a0h (a0a (a0b Y Y Y (a0g (a0c (a1d (a0v (a0j (a0j (a0v (a0j (a1j Y Y ?_)))))))))))))
 obtain rfl := Yo hm
 exact ⟨_, _, _, Y, gl.Yp [] Y Y, Y, Y⟩
 refine a0r 42 Y R (a0q Y (a1c (a1q (a0c (a0a (a0d Y Y Y (a0u Y Y Y Y Y (a0b Y Y Y (a0g (a0o (fun a ha => ihx1 (iadd .i64 i2 1) a _ hm ?_)))))))))))
 exact ⟨_, (gh.trans h8), gl.Yp [0, 1] Y Y, ha.cut (l := [1, 3, 4, 6, 10]) Y⟩
 refine a0r 34 Y Q (a0q Y (a3p (a0x (a0x (fun a ha => hk1 () a _ hm ?_)))))
 exact ⟨_, gh, g4.Yp [0, 1] Y Y, ha.cut (l := [1, 3, 4, 6]) Y⟩
 clear hm
 rcases a0f M with ⟨T, M⟩ | ⟨T, M⟩
 refine a1g 31 Y T (a0d Y Y Y (a0u Y Y Y Y Y (a0n Y Y Y Y (a0g (a0o (fun a ha => ?_))))))
 cases M
 exact ⟨Y, ha.cut (l := [1, 3, 4, 6, 10, 34]) Y⟩
 refine a1g 31 Y T (a0t Y (by decide) Y (a0t Y (by decide) Y (a0k Y Y Y Y (a0g (a0o (fun a ha => ?_))))))
 cases M
 exact ⟨Y, ha.cut (l := [1, 3, 4, 6, 10, 34]) Y⟩
 clear hm hkont2; intro hk2 mx2 K ihx2
 rintro i1 a hg hm ⟨rfl, gj⟩
 simp only [b1b] at hm
 refine a1n gj (a0h (a0h (a0a (a0d Y Y Y (a0d Y Y Y (a1x g5.len u27 Y Y Y (a0u Y Y Y Y Y (a0d Y Y Y ?_))))))))
 obtain ⟨v8, u, hm⟩ := Yb hm
 refine a1z 3 (fun a w' => g7 = w' ∧ Has 68 a [(1, .slice q t k), (3, .slice g o p), (4, .pointer (some ⟨b1, 0, none⟩)), (6, .pointer (some ⟨b2, 0, none⟩)), (9, .int .i64 i1), (18, .bool v8)]) ?_ ?_
 rintro a hh ⟨rfl, gk⟩
 refine a0z gk (a0g (a0c ?_))
 rcases a0f hm with ⟨U, hm⟩ | ⟨U, hm⟩
 refine a0r 18 Y U (a0y Y (a1c (a0c (a0h (a1i (a0h (a0a (a0d Y Y Y (a0d Y Y Y ?_)))))))))
 obtain ⟨ex2, h9, hm⟩ := Yb hm
 refine a2e (r := Rp.str) u27 sz9 Y Y Y Y g5 h9 ?_
 intro b4 o2 k hb hc
 have hd : k = [vs ex2] := hc
 subst hd
 refine a1s (j := 0) ag9 Y Y g8 hb Y Y (b8j u9 Y Y Y (a0u Y Y Y Y Y (a0g (a0c ?_))))
 rcases a0f hm with ⟨V, hm⟩ | ⟨V, hm⟩
 refine a0r 26 Y V (a0y Y (a0h (a0a (a0b Y Y Y (a0g (a0c (a1d (a0v (a0j (a0j (a0v (a0j (a1j Y Y ?_)))))))))))))
 obtain rfl := Yo hm
 exact ⟨_, _, _, Y, g8.Yp [] Y Y, Y, Y⟩
 refine a0r 26 Y V (a0q Y (a1c (a1q (a0c (a0a (a0d Y Y Y (a0u Y Y Y Y Y (a0b Y Y Y (a0g (a0o (fun a ha => ihx2 (iadd .i64 i1 1) a _ hm ?_)))))))))))
 exact ⟨Y, ha.cut (l := [1, 3, 4, 6, 9]) Y⟩
 refine a0r 18 Y U (a0q Y (a3p (a0x (a0x (fun a ha => hk2 () a _ hm ?_)))))
 exact ⟨Y, ha.cut (l := [1, 3, 4, 6]) Y⟩
 clear hm
 rcases a0f u with ⟨Z, u⟩ | ⟨Z, u⟩
 refine a1g 15 Y Z (a0d Y Y Y (a0u Y Y Y Y Y (a0n Y Y Y Y (a0g (a0o (fun a ha => ?_))))))
 cases u
 exact ⟨Y, ha.cut (l := [1, 3, 4, 6, 9, 18]) Y⟩
 refine a1g 15 Y Z (a0t Y (by decide) Y (a0t Y (by decide) Y (a0k Y Y Y Y (a0g (a0o (fun a ha => ?_))))))
 cases u
 exact ⟨Y, ha.cut (l := [1, 3, 4, 6, 9, 18]) Y⟩
def a8v (_n : Nat) (op1 : Int) (args1 : (List Expr)) : Option Expr :=
 some (⟨op1, 0, [], args1⟩ : Expr)
theorem a2a (n : Nat) (op1 : Int) (args1 : (List Expr)) (r : Expr) (hm : a8v n op1 args1 = some r) {w : World} {F : Frz} (hs : Sat F w) {g : Option Addr} {j : Nat} {k : Nat} (m : SlR rp_Expr F g j k args1) :
  Calls Tryz.prog 28 #[.int .i64 op1, .slice g j k] w fun e w' => ∃ v F' O', e = .returned v ∧ HS F w [] F' O' w' ∧ (∃ (a0_3 : Option Addr) (n0_3 : Nat) (c0_3 : Nat), v = .agg #[.int .i64 r.Op, .int .i64 r.N, vs r.Name, .slice a0_3 n0_3 c0_3] ∧ O' = [] ∧ SlR rp_Expr F' a0_3 n0_3 c0_3 r.Args) := by
 unfold a8v at hm
 have h := HS.init hs
 refine a1a 8 Tryz.func28 Y Y Y (a0h (a0a (a1f ze24 Y Y Y h ?_)))
 intro b1 p o
 refine a0g (a0c (a0h (a0a (a0d Y Y Y (a0d Y Y Y (a1y (v := .agg #[.int .i64 op1, .int .i64 0, vs [], .slice g j k]) Y Y Y (fun _ => by kernel_rfl) (a0s sz24 Y o Y Y Y Y (i := 0) Y Y Y Y ?_)))))))
 intro q l
 refine a0g (a0c (a1d (a3y Y ag24 sz24 Y l Y (i := 0) Y ?_)))
 obtain rfl := Yo hm
 exact ⟨_, _, _, Y, l.Yp [] Y Y, g, j, k, Y, Y, m⟩
def a9p (_n : Nat) (ax1 : Expr) (b1 : Expr) : Option (List Expr) :=
 some [ax1, b1]
theorem a3h (n : Nat) (ax1 : Expr) (b1 : Expr) (r : (List Expr)) (hm : a9p n ax1 b1 = some r) {w : World} {F : Frz} (hs : Sat F w) {g j : Option Addr} {k l m o : Nat} (s : SlR rp_Expr F g k l ax1.Args) (t : SlR rp_Expr F j m o b1.Args) :
  Calls Tryz.prog 29 #[.agg #[.int .i64 ax1.Op, .int .i64 ax1.N, vs ax1.Name, .slice g k l], .agg #[.int .i64 b1.Op, .int .i64 b1.N, vs b1.Name, .slice j m o]] w fun e w' => ∃ v F' O', e = .returned v ∧ HS F w [] F' O' w' ∧ (∃ (a0_0 : Option Addr) (n0_0 : Nat) (c0_0 : Nat) (xs0_0 : List Value), v = .slice a0_0 n0_0 c0_0 ∧ O' = [.row 24 4 a0_0 n0_0 c0_0 xs0_0] ∧ RowN rp_Expr F' n0_0 xs0_0 r) := by
 unfold a9p at hm
 have h := HS.init hs
 refine a1a 8 Tryz.func29 Y Y Y (a0h (a0a (a2i Y Y Y Y h ?_)))
 intro b2 y u
 refine a2i Y Y Y Y u ?_
 intro b3 z p
 refine a0b Y Y Y (a0g (a0c (a0h (a0a (a0m ag24 sz24 Y Y p Y (i := 1) Y Y (a0m ag24 sz24 Y Y p Y (i := 0) Y Y (a1v (e := 24) (cs := [.int .i64 ax1.Op, .int .i64 ax1.N, vs ax1.Name, .slice g k l, .int .i64 b1.Op, .int .i64 b1.N, vs b1.Name, .slice j m o]) (q := 4) Y Y p Y (fun _ => by kernel_rfl) Y Y ?_)))))))
 intro b4 G x
 refine a0b Y Y Y (a0g (a0c (a1d (a1j Y Y ?_))))
 obtain rfl := Yo hm
 exact ⟨_, _, _, Y, x.Yp [0] Y Y, (some ⟨b4, 0, none⟩), 2, 2, [.int .i64 ax1.Op, .int .i64 ax1.N, vs ax1.Name, .slice g k l, .int .i64 b1.Op, .int .i64 b1.N, vs b1.Name, .slice j m o], Y, Y, ((show RowN rp_Expr F 2 [.int .i64 ax1.Op, .int .i64 ax1.N, vs ax1.Name, .slice g k l, .int .i64 b1.Op, .int .i64 b1.N, vs b1.Name, .slice j m o] [ax1, b1] from ⟨Y, ⟨_, _, Y, (expr_iff.2 ⟨g, k, l, Y, s⟩), ⟨_, _, Y, (expr_iff.2 ⟨j, m, o, Y, t⟩), (Y : RowR rp_Expr _ [] [])⟩⟩⟩))⟩
def a7z (_n : Nat) (nx1 : Int) : Option Expr :=
 some (⟨0, nx1, [], []⟩ : Expr)
theorem a3m (n : Nat) (nx1 : Int) (r : Expr) (hm : a7z n nx1 = some r) {w : World} {F : Frz} (hs : Sat F w)  :
  Calls Tryz.prog 30 #[.int .i64 nx1] w fun e w' => ∃ v F' O', e = .returned v ∧ HS F w [] F' O' w' ∧ (∃ (a0_3 : Option Addr) (n0_3 : Nat) (c0_3 : Nat), v = .agg #[.int .i64 r.Op, .int .i64 r.N, vs r.Name, .slice a0_3 n0_3 c0_3] ∧ O' = [] ∧ SlR rp_Expr F' a0_3 n0_3 c0_3 r.Args) := by
 unfold a7z at hm
 have h := HS.init hs
 refine a1a 5 Tryz.func30 Y Y Y (a0h (a0a (a1f ze24 Y Y Y h ?_)))
 intro b1 k j
 refine a0g (a0c (a0h (a0a (a0d Y Y Y (a1y (v := .agg #[.int .i64 0, .int .i64 nx1, vs [], .slice none 0 0]) Y Y Y (fun _ => by kernel_rfl) (a0s sz24 Y j Y Y Y Y (i := 0) Y Y Y Y ?_))))))
 intro l g
 refine a0g (a0c (a1d (a3y Y ag24 sz24 Y g Y (i := 0) Y ?_)))
 obtain rfl := Yo hm
 exact ⟨_, _, _, Y, g.Yp [] Y Y, none, 0, 0, Y, Y, SlR.nil _ _⟩
def b0k (n : Nat) (x1 : Expr) (weights1 : (List Frac)) : Option (Frac × Int) :=
 (a7h n (⟨[97], x1, (-1)⟩ : Tariff) [[112, 97, 112, 101, 114], [103, 108, 97, 115, 115]] (⟨[4, 0], 3, 1⟩ : Facts) weights1).bind fun v1 =>
 some (v1.1, v1.2)
theorem a5z (n : Nat) (x1 : Expr) (weights1 : (List Frac)) (r : (Frac × Int)) (hm : b0k n x1 weights1 = some r) {w : World} {F : Frz} (hs : Sat F w) {g o : Option Addr} {j k p s : Nat} (K : SlR rp_Expr F g j k x1.Args) (L : SlR rp_Frac F o p s weights1) :
  Calls Tryz.prog 27 #[.agg #[.int .i64 x1.Op, .int .i64 x1.N, vs x1.Name, .slice g j k], .slice o p s] w fun e w' => ∃ v F' O', e = .returned v ∧ HS F w [] F' O' w' ∧ (∃ (a0_1 : Option Addr) (n0_1 : Nat) (c0_1 : Nat) (a0_3 : Option Addr) (n0_3 : Nat) (c0_3 : Nat), v = .tuple #[.agg #[.int .i64 r.1.P.Sign, .slice a0_1 n0_1 c0_1, .int .i64 r.1.Q.Sign, .slice a0_3 n0_3 c0_3], .int .i64 r.2] ∧ O' = [] ∧ SlR (Rp.int .i64) F' a0_1 n0_1 c0_1 r.1.P.Digits ∧ SlR (Rp.int .i64) F' a0_3 n0_3 c0_3 r.1.Q.Digits) := by
 unfold b0k at hm
 have h := HS.init hs
 refine a1a 15 Tryz.func27 Y Y Y (a0h (a0a (a2i Y Y Y Y h ?_)))
 intro b1 g2 M
 refine a1f ze37 Y Y Y M ?_
 intro b2 g3 t
 refine a0b Y Y Y (a0g (a0c (a0h (a0a (a0m ag24 sz24 Y Y t Y (i := 1) Y Y (a1y (v := .agg #[vs [97], .int .i64 x1.Op, .int .i64 x1.N, vs x1.Name, .slice g j k, .int .i64 (-1)]) Y Y Y (fun _ => by kernel_rfl) (a1v (e := 9) (cs := [vs [112, 97, 112, 101, 114], vs [103, 108, 97, 115, 115]]) (q := 1) Y Y t Y (fun _ => by kernel_rfl) Y Y ?_)))))))
 intro b3 g4 R
 refine a1v (e := 3) (cs := [.int .i64 4, .int .i64 0]) (q := 1) Y Y R Y (fun _ => by kernel_rfl) Y Y ?_
 intro b4 g5 T
 obtain ⟨g6, l, U, hsx1⟩ := a1h T (i := 0) Y ((show RowN (Rp.int .i64) F 2 [.int .i64 4, .int .i64 0] [4, 0] from ⟨Y, ⟨_, _, Y, Y, ⟨_, _, Y, Y, (Y : RowR (Rp.int .i64) _ [] [])⟩⟩⟩))
 refine a1y (v := .agg #[.slice (some ⟨b4, 0, none⟩) 2 2, .int .i64 3, .int .i64 1]) Y Y Y (fun _ => by kernel_rfl) (a0d Y Y Y ?_)
 obtain ⟨g7, m, u, hsx2⟩ := a1h U (i := 0) Y ((show RowN Rp.str F 2 [vs [112, 97, 112, 101, 114], vs [103, 108, 97, 115, 115]] [[112, 97, 112, 101, 114], [103, 108, 97, 115, 115]] from ⟨Y, ⟨_, _, Y, Y, ⟨_, _, Y, Y, (Y : RowR Rp.str _ [] [])⟩⟩⟩).mono l)
 obtain ⟨v1, V, hm⟩ := Yb hm
 refine a0i ent8 Y Y Y Y u (b4y _ _ _ _ _ _ V u.sat ((K.mono l).mono m) hsx2 (hsx1.mono m) ((L.mono l).mono m)) ?_
 rintro _ g8 _ g9 ga Z ⟨x, y, z, G, H, I, rfl, rfl, g0, g1⟩
 refine a0l Y Y Y Y (a0l Y Y Y Y (a0s sz37 Y Z Y Y Y Y (i := 0) Y Y Y Y ?_))
 intro gb J
 refine a0b Y Y Y (a0g (a0c (a1d (a1o (vl := [.agg #[.int .i64 v1.1.P.Sign, .slice x y z, .int .i64 v1.1.Q.Sign, .slice G H I], .int .i64 v1.2]) Y ⟨a2d ag37 sz37 Y J Y (i := 0) Y, a1r Y, trivial⟩ (by simp) ?_))))
 obtain rfl := Yo hm
 exact ⟨_, _, _, Y, J.Yp [] Y Y, x, y, z, G, H, I, Y, Y, g0, g1⟩
end Go.Proofs.YtknpjecpcmajiaaGreat.M

namespace Go.Proofs.YtknpjecpcmajiaaGreat.Wrap
open Go Go.ChangeShapes Go.WideShapes Go.ChangeAt Go.RowKit Rt
theorem d0t (W : World) : b4k Tryz.prog W 9 Rp.str (fun s => s.length ≤ maxLen) := d1a Tryz.underlying9
theorem cells9 : Tryz.prog.cellsOf 9 = 1 := by kernel_rfl
theorem c1c (W : World) : b4k Tryz.prog W 3 (Rp.int .i64) (fun z => IntKind.i64.min ≤ z ∧ z ≤ IntKind.i64.max) := c9u Tryz.underlying3
theorem cells3 : Tryz.prog.cellsOf 3 = 1 := by kernel_rfl
theorem cells22 : Tryz.prog.cellsOf 22 = 1 := by kernel_rfl
theorem cells24 : Tryz.prog.cellsOf 24 = 4 := by kernel_rfl
inductive WfX : M.Expr → Prop
  | mk {o n : Int} {s : Rt.Bs} {l : List M.Expr} : (IntKind.i64.min ≤ o ∧ o ≤ IntKind.i64.max) → (IntKind.i64.min ≤ n ∧ n ≤ IntKind.i64.max) → s.length ≤ maxLen → l.length ≤ maxLen → (∀ y, y ∈ l → WfX y) → WfX ⟨o, n, s, l⟩
def ok24 (x : M.Expr) : Prop := WfX x
set_option maxRecDepth 100000 in
theorem d1y (W : World) {H : Type} (enc : TypeId × Value → H) : ∀ (fuel : Nat) (cs : List Value) (x : DataW H × List MemPlace), DataW.trod enc Tryz.prog W 0 (fun _ => true) true fuel 24 cs = some x → ∃ y, M.rp_Expr.R (all W) cs y ∧ WfX y := by
 intro fuel
 induction fuel using Nat.strongRecOn with
 | ind fuel ih =>
  intro cs x h
  obtain ⟨xs, n, hfu, _, hl, hn, hf⟩ := DataW.trod_struct Tryz.underlying24 h
  obtain ⟨y0, r0, o0⟩ := a8l hn hf (i := 0) rfl (c1c W)
  obtain ⟨y1, r1, o1⟩ := a8l hn hf (i := 1) rfl (c1c W)
  obtain ⟨y2, r2, o2⟩ := a8l hn hf (i := 2) rfl (d0t W)
  have h3 : DataW.trod enc Tryz.prog W 0 (fun _ => true) true n 22 ((cs.drop 3).take (Tryz.prog.cellsOf 22)) = xs[3]? := hf 3 _ rfl
  have h3l : 3 < xs.length := by rw [hn]; decide
  rw [List.getElem?_eq_getElem h3l] at h3
  obtain ⟨l, ⟨a, m, c, e3', s3⟩, o3, o4⟩ := d2d Tryz.underlying22 (r := M.rp_Expr) (ok := WfX) (by rw [cells24]; rfl) (by decide) h3 (fun j cs' x' hj hx => ih j (by omega) cs' x' hx)
  have e0 : (cs.drop 0).take (Tryz.prog.cellsOf 3) = [.int .i64 y0] := r0
  have e1 : (cs.drop 1).take (Tryz.prog.cellsOf 3) = [.int .i64 y1] := r1
  have e2 : (cs.drop 2).take (Tryz.prog.cellsOf 9) = [vs y2] := r2
  have e3 : (cs.drop 3).take (Tryz.prog.cellsOf 22) = [.slice a m c] := e3'
  rw [cells3] at e0 e1
  rw [cells9] at e2
  rw [cells22] at e3
  rw [cells24] at hl
  refine ⟨⟨y0, y1, y2, l⟩, M.expr_iff.2 ⟨a, m, c, ?_, s3⟩, WfX.mk o0 o1 o2 o3 o4⟩
  show cs = _
  have hd : cs.drop 4 = [] := List.drop_of_length_le (by omega)
  have h0 : cs = cs.drop 0 := (List.drop_zero).symm
  rw [h0]
  rw [show cs.drop 0 = (cs.drop 0).take 1 ++ cs.drop 1 from a7n cs 0 1, e0]
  rw [show cs.drop 1 = (cs.drop 1).take 1 ++ cs.drop 2 from a7n cs 1 1, e1]
  rw [show cs.drop 2 = (cs.drop 2).take 1 ++ cs.drop 3 from a7n cs 2 1, e2]
  rw [show cs.drop 3 = (cs.drop 3).take 1 ++ cs.drop 4 from a7n cs 3 1, e3]
  rw [hd]
  rfl
theorem d5n (W : World) : b4k Tryz.prog W 24 M.rp_Expr ok24 := fun enc fuel cs x h => d1y W enc fuel cs x h
theorem cells26 : Tryz.prog.cellsOf 26 = 6 := by kernel_rfl
def ok26 (x : M.Tariff) : Prop := x.Name.length ≤ maxLen ∧ ok24 x.Fee ∧ (IntKind.i64.min ≤ x.Cap ∧ x.Cap ≤ IntKind.i64.max)
set_option maxRecDepth 100000 in
theorem d3m (W : World) : b4k Tryz.prog W 26 M.rp_Tariff ok26 := by
 intro H enc fuel cs x h
 obtain ⟨xs, n, _, _, hl, hn, hf⟩ := DataW.trod_struct Tryz.underlying26 h
 obtain ⟨y0, r0, o0⟩ := a8l hn hf (i := 0) rfl (d0t W)
 have e0' := r0
 have e0 : (cs.drop 0).take (Tryz.prog.cellsOf 9) = [vs y0] := e0'
 rw [cells9] at e0
 obtain ⟨y1, r1, o1⟩ := a8l hn hf (i := 1) rfl (d5n W)
 obtain ⟨a1_3, n1_3, c1_3, e1', s1_3⟩ := (M.expr_iff.1 r1)
 have e1 : (cs.drop 1).take (Tryz.prog.cellsOf 24) = [.int .i64 y1.Op, .int .i64 y1.N, vs y1.Name, .slice a1_3 n1_3 c1_3] := e1'
 rw [cells24] at e1
 obtain ⟨y2, r2, o2⟩ := a8l hn hf (i := 2) rfl (c1c W)
 have e2' := r2
 have e2 : (cs.drop 5).take (Tryz.prog.cellsOf 3) = [.int .i64 y2] := e2'
 rw [cells3] at e2
 rw [cells26] at hl
 refine ⟨⟨y0, y1, y2⟩, ⟨a1_3, n1_3, c1_3, ?_, s1_3⟩, o0, o1, o2⟩
 show cs = _
 have hd : cs.drop 6 = [] := List.drop_of_length_le (by omega)
 have h0 : cs = cs.drop 0 := (List.drop_zero).symm
 rw [h0]
 rw [show cs.drop 0 = (cs.drop 0).take 1 ++ cs.drop 1 from a7n cs 0 1, e0]
 rw [show cs.drop 1 = (cs.drop 1).take 4 ++ cs.drop 5 from a7n cs 1 4, e1]
 rw [show cs.drop 5 = (cs.drop 5).take 1 ++ cs.drop 6 from a7n cs 5 1, e2]
 rw [hd]
 rfl
def ok27 (l : List Bs) : Prop := l.length ≤ maxLen ∧ ∀ x ∈ l, x.length ≤ maxLen
theorem d3o (W : World) : b4k Tryz.prog W 27 (Rp.sl Rp.str) ok27 := b6r Tryz.underlying27 (r := Rp.str) (by rw [cells9]; rfl) (by decide) (d0t W)
def ok28 (l : List Int) : Prop := l.length ≤ maxLen ∧ ∀ x ∈ l, (IntKind.i64.min ≤ x ∧ x ≤ IntKind.i64.max)
theorem d1c (W : World) : b4k Tryz.prog W 28 (Rp.sl (Rp.int .i64)) ok28 := b6r Tryz.underlying28 (r := (Rp.int .i64)) (by rw [cells3]; rfl) (by decide) (c1c W)
theorem cells28 : Tryz.prog.cellsOf 28 = 1 := by kernel_rfl
theorem cells30 : Tryz.prog.cellsOf 30 = 3 := by kernel_rfl
def ok30 (x : M.Facts) : Prop := ok28 x.Lifts ∧ (IntKind.i64.min ≤ x.Persons ∧ x.Persons ≤ IntKind.i64.max) ∧ (IntKind.i64.min ≤ x.Flats ∧ x.Flats ≤ IntKind.i64.max)
set_option maxRecDepth 100000 in
theorem d4o (W : World) : b4k Tryz.prog W 30 M.rp_Facts ok30 := by
 intro H enc fuel cs x h
 obtain ⟨xs, n, _, _, hl, hn, hf⟩ := DataW.trod_struct Tryz.underlying30 h
 obtain ⟨y0, r0, o0⟩ := a8l hn hf (i := 0) rfl (d1c W)
 obtain ⟨a0_0, n0_0, c0_0, e0', s0_0⟩ := r0
 have e0 : (cs.drop 0).take (Tryz.prog.cellsOf 28) = [.slice a0_0 n0_0 c0_0] := e0'
 rw [cells28] at e0
 obtain ⟨y1, r1, o1⟩ := a8l hn hf (i := 1) rfl (c1c W)
 have e1' := r1
 have e1 : (cs.drop 1).take (Tryz.prog.cellsOf 3) = [.int .i64 y1] := e1'
 rw [cells3] at e1
 obtain ⟨y2, r2, o2⟩ := a8l hn hf (i := 2) rfl (c1c W)
 have e2' := r2
 have e2 : (cs.drop 2).take (Tryz.prog.cellsOf 3) = [.int .i64 y2] := e2'
 rw [cells3] at e2
 rw [cells30] at hl
 refine ⟨⟨y0, y1, y2⟩, ⟨a0_0, n0_0, c0_0, ?_, s0_0⟩, o0, o1, o2⟩
 show cs = _
 have hd : cs.drop 3 = [] := List.drop_of_length_le (by omega)
 have h0 : cs = cs.drop 0 := (List.drop_zero).symm
 rw [h0]
 rw [show cs.drop 0 = (cs.drop 0).take 1 ++ cs.drop 1 from a7n cs 0 1, e0]
 rw [show cs.drop 1 = (cs.drop 1).take 1 ++ cs.drop 2 from a7n cs 1 1, e1]
 rw [show cs.drop 2 = (cs.drop 2).take 1 ++ cs.drop 3 from a7n cs 2 1, e2]
 rw [hd]
 rfl
theorem cells35 : Tryz.prog.cellsOf 35 = 2 := by kernel_rfl
def ok35 (x : M.Big) : Prop := (IntKind.i64.min ≤ x.Sign ∧ x.Sign ≤ IntKind.i64.max) ∧ ok28 x.Digits
set_option maxRecDepth 100000 in
theorem c9y (W : World) : b4k Tryz.prog W 35 M.rp_Big ok35 := by
 intro H enc fuel cs x h
 obtain ⟨xs, n, _, _, hl, hn, hf⟩ := DataW.trod_struct Tryz.underlying35 h
 obtain ⟨y0, r0, o0⟩ := a8l hn hf (i := 0) rfl (c1c W)
 have e0' := r0
 have e0 : (cs.drop 0).take (Tryz.prog.cellsOf 3) = [.int .i64 y0] := e0'
 rw [cells3] at e0
 obtain ⟨y1, r1, o1⟩ := a8l hn hf (i := 1) rfl (d1c W)
 obtain ⟨a1_0, n1_0, c1_0, e1', s1_0⟩ := r1
 have e1 : (cs.drop 1).take (Tryz.prog.cellsOf 28) = [.slice a1_0 n1_0 c1_0] := e1'
 rw [cells28] at e1
 rw [cells35] at hl
 refine ⟨⟨y0, y1⟩, ⟨a1_0, n1_0, c1_0, ?_, s1_0⟩, o0, o1⟩
 show cs = _
 have hd : cs.drop 2 = [] := List.drop_of_length_le (by omega)
 have h0 : cs = cs.drop 0 := (List.drop_zero).symm
 rw [h0]
 rw [show cs.drop 0 = (cs.drop 0).take 1 ++ cs.drop 1 from a7n cs 0 1, e0]
 rw [show cs.drop 1 = (cs.drop 1).take 1 ++ cs.drop 2 from a7n cs 1 1, e1]
 rw [hd]
 rfl
theorem cells37 : Tryz.prog.cellsOf 37 = 4 := by kernel_rfl
def ok37 (x : M.Frac) : Prop := ok35 x.P ∧ ok35 x.Q
set_option maxRecDepth 100000 in
theorem d5c (W : World) : b4k Tryz.prog W 37 M.rp_Frac ok37 := by
 intro H enc fuel cs x h
 obtain ⟨xs, n, _, _, hl, hn, hf⟩ := DataW.trod_struct Tryz.underlying37 h
 obtain ⟨y0, r0, o0⟩ := a8l hn hf (i := 0) rfl (c9y W)
 obtain ⟨a0_1, n0_1, c0_1, e0', s0_1⟩ := r0
 have e0 : (cs.drop 0).take (Tryz.prog.cellsOf 35) = [.int .i64 y0.Sign, .slice a0_1 n0_1 c0_1] := e0'
 rw [cells35] at e0
 obtain ⟨y1, r1, o1⟩ := a8l hn hf (i := 1) rfl (c9y W)
 obtain ⟨a1_1, n1_1, c1_1, e1', s1_1⟩ := r1
 have e1 : (cs.drop 2).take (Tryz.prog.cellsOf 35) = [.int .i64 y1.Sign, .slice a1_1 n1_1 c1_1] := e1'
 rw [cells35] at e1
 rw [cells37] at hl
 refine ⟨⟨y0, y1⟩, ⟨a0_1, n0_1, c0_1, a1_1, n1_1, c1_1, ?_, s0_1, s1_1⟩, o0, o1⟩
 show cs = _
 have hd : cs.drop 4 = [] := List.drop_of_length_le (by omega)
 have h0 : cs = cs.drop 0 := (List.drop_zero).symm
 rw [h0]
 rw [show cs.drop 0 = (cs.drop 0).take 2 ++ cs.drop 2 from a7n cs 0 2, e0]
 rw [show cs.drop 2 = (cs.drop 2).take 2 ++ cs.drop 4 from a7n cs 2 2, e1]
 rw [hd]
 rfl
def ok31 (l : List M.Frac) : Prop := l.length ≤ maxLen ∧ ∀ x ∈ l, ok37 x
theorem d4n (W : World) : b4k Tryz.prog W 31 (Rp.sl M.rp_Frac) ok31 := b6r Tryz.underlying31 (r := M.rp_Frac) (by rw [cells37]; rfl) (by decide) (d5c W)
def tabs : List (String × DataW Unit) := []
noncomputable def c0k (os : Os) : World :=
  { World.holding Tryz.prog os ⟨#[], #[], []⟩ with heap := (World.holding Tryz.prog os ⟨#[], #[], []⟩).heap }
theorem d2h (os : Os) (args : Array Value) : laidMet Tryz.prog tabs ((c0k os).forCall (fun _ _ => 0) ⟨#[], args, []⟩).memory :=
 laidMet_of_run' 8 (by kernel_rfl) (by kernel_rfl)
end Go.Proofs.YtknpjecpcmajiaaGreat.Wrap

namespace Go.Proofs.YtknpjecpcmajiaaGreat.M
open Go Go.RowKit Rt
theorem ent17 : Ent Tryz.prog 17 := fun _ _ => by kernel_rfl
theorem ent29 : Ent Tryz.prog 29 := fun _ _ => by kernel_rfl
theorem ent28 : Ent Tryz.prog 28 := fun _ _ => by kernel_rfl
theorem ent27 : Ent Tryz.prog 27 := fun _ _ => by kernel_rfl
theorem ent30 : Ent Tryz.prog 30 := fun _ _ => by kernel_rfl
theorem ent10 : Ent Tryz.prog 10 := fun _ _ => by kernel_rfl
theorem ent12 : Ent Tryz.prog 12 := fun _ _ => by kernel_rfl
def b2k (n : Nat)  : Option Bool :=
 (b4c n 12345 2).bind fun v1 =>
 (b4c n 2469 400).bind fun v2 =>
 (a6t n 100).bind fun v3 =>
 ((a7z n 1000).bind fun v37 =>
 (a9p n (⟨4, 0, [112, 97, 112, 101, 114], []⟩ : Expr) v37).bind fun v38 =>
 (a8v n 8 v38).bind fun v39 =>
 (b0k n v39 [v1.1, v3]).bind fun v40 =>
 some (v40.1.P.Sign, v40.1.P.Digits, v40.1.Q.Sign, v40.1.Q.Digits, v40.2)).bind fun (f1, f2, f3, f4, ex1) =>
 ((a7z n 1000).bind fun v32 =>
 (a9p n v32 (⟨2, 0, [], []⟩ : Expr)).bind fun v33 =>
 (a8v n 7 v33).bind fun v34 =>
 (a9p n (⟨4, 0, [112, 97, 112, 101, 114], []⟩ : Expr) v34).bind fun v35 =>
 (a8v n 9 v35).bind fun v36 =>
 some (v36.Op, v36.N, v36.Name, v36.Args)).bind fun (f5, f6, f7, f8) =>
 (a9p n (⟨f5, f6, f7, f8⟩ : Expr) (⟨1, 0, [112, 97, 112, 101, 114], []⟩ : Expr)).bind fun v4 =>
 (a8v n 5 v4).bind fun v5 =>
 (b0k n v5 [v1.1, v3]).bind fun v6 =>
 (a7z n 2).bind fun v7 =>
 (a9p n v7 (⟨4, 0, [103, 108, 97, 115, 115], []⟩ : Expr)).bind fun v8 =>
 (a8v n 6 v8).bind fun v9 =>
 ((a7z n 3).bind fun v27 =>
 (a9p n (⟨2, 0, [], []⟩ : Expr) v27).bind fun v28 =>
 (a8v n 12 v28).bind fun v29 =>
 (a7z n 1).bind fun v30 =>
 (a8v n 11 [v29, v30, v9]).bind fun v31 =>
 some (v31.Op, v31.N, v31.Name, v31.Args)).bind fun (f9, f10, f11, f12) =>
 (b0k n (⟨f9, f10, f11, f12⟩ : Expr) [v1.1, v3]).bind fun v10 =>
 (a9r n (⟨[97], (⟨f9, f10, f11, f12⟩ : Expr), 5⟩ : Tariff) [[112, 97, 112, 101, 114], [103, 108, 97, 115, 115]] (⟨[4, 0], 3, 1⟩ : Facts) [v1.1, v3]).bind fun v11 =>
 (b0k n (⟨4, 0, [116, 105, 110], []⟩ : Expr) [v1.1, v3]).bind fun v12 =>
 (bif ex1 != 0 then
  some true
 else
  some (v6.2 != 0)).bind fun v13 =>
 (bif v13 then
  some true
 else
  some (v10.2 != 0)).bind fun v14 =>
 (bif v14 then
  some true
 else
  some (v11.2 != 0)).bind fun v15 =>
 (bif v15 then
  some true
 else
  some (v12.2 != 11)).bind fun v16 =>
 bif v16 then
  some false
 else
  (a6a n (⟨(⟨f1, f2⟩ : Big), (⟨f3, f4⟩ : Big)⟩ : Frac) v2.1).bind fun v17 =>
  (bif v17 then
   (a6t n 3004).bind fun v25 =>
   (a6a n v6.1 v25).bind fun v26 =>
   some v26
  else
   some false).bind fun v18 =>
  (bif v18 then
   (a6t n (-98)).bind fun v23 =>
   (a6a n v10.1 v23).bind fun v24 =>
   some v24
  else
   some false).bind fun v19 =>
  (bif v19 then
   (a6t n 0).bind fun v21 =>
   (a6a n v11.1 v21).bind fun v22 =>
   some v22
  else
   some false).bind fun v20 =>
  some v20
theorem c2b (n : Nat)  (r : Bool) (hm : b2k n  = some r) {w : World} {F : Frz} (hs : Sat F w)  :
  Calls Tryz.prog 6 #[] w fun e w' => ∃ v F' O', e = .returned v ∧ HS F w [] F' O' w' ∧ (v = .bool r ∧ O' = []) := by
 unfold b2k at hm
 have h := HS.init hs
 refine a1a 129 Tryz.func6 Y Y Y (a0h (a0a (a0b Y Y Y (a0g (a0c (a0h (a0a ?_)))))))
 obtain ⟨v1, qz, hm⟩ := Yb hm
 refine a0i ent26 Y Y Y Y h (b6w _ _ _ _ qz h.sat) ?_
 rintro _ vi _ vj vk s0 ⟨h8, h9, hb, hc, hd, he, rfl, rfl, s1, s2⟩
 refine a0d Y Y Y (a0l Y Y Y Y (a0l Y Y Y Y (a1f ze37 Y Y Y s0 ?_)))
 intro b1 vl s3
 refine a0s sz37 Y s3 Y Y Y Y (i := 0) Y Y Y Y ?_
 intro vm oh
 refine a0b Y Y Y (a0g (a0c (a0h (a0a ?_))))
 obtain ⟨v2, s4, hm⟩ := Yb hm
 refine a0i ent26 Y Y Y Y oh (b6w _ _ _ _ s4 oh.sat) ?_
 rintro _ s5 _ vn oi s6 ⟨hx, hy, hz, i0, i1, i2, rfl, rfl, s7, s8⟩
 refine a0d Y Y Y (a0l Y Y Y Y (a0l Y Y Y Y (a1f ze37 Y Y Y s6 ?_)))
 intro b2 vo s9
 refine a0s sz37 Y s9 Y Y Y Y (i := 0) Y Y Y Y ?_
 intro vp sa
 refine a0b Y Y Y (a0g (a0c (a0h (a2l (SH s5 [.box b2 37 [.int .i64 v2.1.P.Sign, .slice hx hy hz, .int .i64 v2.1.Q.Sign, .slice i0 i1 i2], .box b1 37 [.int .i64 v1.1.P.Sign, .slice h8 h9 hb, .int .i64 v1.1.Q.Sign, .slice hc hd he]]) 4 Y (by kernel_rfl) sa ?_))))
 intro vq ma
 refine d_tk 0 Y (by kernel_rfl) Y Y Y Y (ma.Ys Yf [0, 1] Y Y) (fun _ _ _ _ hq => a0m ag37 sz37 Y Y hq Y (i := 1) Y Y Yn) (a1b 1 Y (by kernel_rfl) ?_)
 obtain ⟨v3, sb, hm⟩ := Yb hm
 refine a0i ent17 Y Y Y Y ma (a6y _ _ _ sb ma.sat) ?_
 rintro _ sc _ vr jt oj ⟨mb, mc, md, me, mf, mg, rfl, rfl, sd, se⟩
 refine a0w (oj.Ys jt [0, 1] Y Y) (a1b 2 Y (by kernel_rfl) (a1v (e := 37) (cs := [.int .i64 v1.1.P.Sign, .slice h8 h9 hb, .int .i64 v1.1.Q.Sign, .slice hc hd he, .int .i64 v3.P.Sign, .slice mb mc md, .int .i64 v3.Q.Sign, .slice me mf mg]) (q := 4) Y Y oj Y (fun _ => by kernel_rfl) Y Y ?_))
 intro b3 vt mh
 refine a0w (mh.Ys jt [1, 2] Y Y) (d_tk 3 Y (by kernel_rfl) Y Y Y Y (mh.Ys jt [1, 2] Y Y) (fun _ _ _ _ _ => a0b Y Y Y Yn) (a2x (by kernel_rfl) (a0c (a0h (a0a (a1y (v := .agg #[.int .i64 4, .int .i64 0, vs [112, 97, 112, 101, 114], .slice none 0 0]) Y Y Y (fun _ => by kernel_rfl) (a1f ze24 Y Y Y mh ?_)))))))
 intro b4 sr ow
 refine a0s sz24 Y ow Y Y Y Y (i := 0) Y Y Y Y ?_
 intro ss ox
 refine a0g (a0c (a0h (a0a (a1y (v := .agg #[.int .i64 2, .int .i64 0, vs [], .slice none 0 0]) Y Y Y (fun _ => by kernel_rfl) (a1f ze24 Y Y Y ox ?_)))))
 intro b5 st oy
 refine a0s sz24 Y oy Y Y Y Y (i := 0) Y Y Y Y ?_
 intro su oz
 refine a0g (a0c ?_)
 obtain ⟨ok, sf, p0, hsx1⟩ := a1h oz (i := 2) Y ((show RowN rp_Frac sc 2 [.int .i64 v1.1.P.Sign, .slice h8 h9 hb, .int .i64 v1.1.Q.Sign, .slice hc hd he, .int .i64 v3.P.Sign, .slice mb mc md, .int .i64 v3.Q.Sign, .slice me mf mg] [v1.1, v3] from ⟨Y, ⟨_, _, Y, ⟨h8, h9, hb, hc, hd, he, Y, ((s1.mono oi).mono jt), ((s2.mono oi).mono jt)⟩, ⟨_, _, Y, ⟨mb, mc, md, me, mf, mg, Y, sd, se⟩, (Y : RowR rp_Frac _ [] [])⟩⟩⟩))
 obtain ⟨⟨f1, f2, f3, f4, ex1⟩, Z, hm⟩ := Yb hm
 refine c8s (fun a w' => ∃ (jb : Frz) (b6 : Nat) (i3 : Option Addr) (i4 : Nat) (i5 : Nat) (i6 : Option Addr) (i7 : Nat) (i8 : Nat), Frz.le ok jb ∧ HS F w [] jb [.box b6 37 [.int .i64 f1, .slice i3 i4 i5, .int .i64 f3, .slice i6 i7 i8], .box b5 24 [.int .i64 2, .int .i64 0, vs [], .slice none 0 0], .box b4 24 [.int .i64 4, .int .i64 0, vs [112, 97, 112, 101, 114], .slice none 0 0], .box b2 37 [.int .i64 v2.1.P.Sign, .slice hx hy hz, .int .i64 v2.1.Q.Sign, .slice i0 i1 i2], .box b1 37 [.int .i64 v1.1.P.Sign, .slice h8 h9 hb, .int .i64 v1.1.Q.Sign, .slice hc hd he]] w' ∧ (SlR (Rp.int .i64) jb i3 i4 i5 f2) ∧ (SlR (Rp.int .i64) jb i6 i7 i8 f4) ∧ Has 129 a [(3, .pointer (some ⟨b2, 0, none⟩)), (5, .slice (some ⟨b3, 0, none⟩) 2 2), (6, .pointer (some ⟨b4, 0, none⟩)), (7, .pointer (some ⟨b5, 0, none⟩)), (8, .pointer (some ⟨b6, 0, none⟩)), (9, .int .i64 ex1)]) ?_ ?_
 rintro a sv ⟨jb, b6, i3, i4, i5, i6, i7, i8, ol, p1, sg, si, p2⟩
 refine a1n p2 ?_
 obtain ⟨⟨f5, f6, f7, f8⟩, H, hm⟩ := Yb hm
 refine c8s (fun a w' => ∃ (m9 : Frz) (b7 : Nat) (ip : Option Addr) (iq : Nat) (ir : Nat), Frz.le jb m9 ∧ HS F w [] m9 [.box b7 24 [.int .i64 f5, .int .i64 f6, vs f7, .slice ip iq ir], .box b6 37 [.int .i64 f1, .slice i3 i4 i5, .int .i64 f3, .slice i6 i7 i8], .box b5 24 [.int .i64 2, .int .i64 0, vs [], .slice none 0 0], .box b4 24 [.int .i64 4, .int .i64 0, vs [112, 97, 112, 101, 114], .slice none 0 0], .box b2 37 [.int .i64 v2.1.P.Sign, .slice hx hy hz, .int .i64 v2.1.Q.Sign, .slice i0 i1 i2], .box b1 37 [.int .i64 v1.1.P.Sign, .slice h8 h9 hb, .int .i64 v1.1.Q.Sign, .slice hc hd he]] w' ∧ (SlR rp_Expr m9 ip iq ir f8) ∧ Has 129 a [(3, .pointer (some ⟨b2, 0, none⟩)), (5, .slice (some ⟨b3, 0, none⟩) 2 2), (7, .pointer (some ⟨b5, 0, none⟩)), (8, .pointer (some ⟨b6, 0, none⟩)), (9, .int .i64 ex1), (10, .pointer (some ⟨b7, 0, none⟩))]) ?_ ?_
 rintro a sw ⟨m9, b7, ip, iq, ir, mi, l6, sj, p3⟩
 refine a1n p3 (a0h (a0a (a0m ag24 sz24 Y Y l6 Y (i := 0) Y Y (a1y (v := .agg #[.int .i64 1, .int .i64 0, vs [112, 97, 112, 101, 114], .slice none 0 0]) Y Y Y (fun _ => by kernel_rfl) ?_))))
 obtain ⟨v4, sk, hm⟩ := Yb hm
 refine a0i ent29 Y Y Y Y l6 (a3h _ _ _ _ sk l6.sat sj (SlR.nil _ _)) ?_
 rintro _ vu _ sx mj p4 ⟨sy, sz, t0, xss10, rfl, rfl, p5⟩
 obtain ⟨vv, mk, ml, hsx2⟩ := a1h p4 (i := 0) Y p5
 obtain ⟨v5, sl, hm⟩ := Yb hm
 refine a0i ent28 Y Y Y Y ml (a2a _ _ _ _ sl ml.sat hsx2) ?_
 rintro _ vw _ t1 mm mn ⟨t2, t3, t4, rfl, rfl, p6⟩
 refine a0d Y Y Y ?_
 have om := (((ol.trans mi).trans mj).trans mk).trans mm
 obtain ⟨v6, sm, hm⟩ := Yb hm
 refine a0i ent27 Y Y Y Y mn (a5z _ _ _ _ sm mn.sat p6 (hsx1.mono om)) ?_
 rintro _ t5 _ t6 l7 p7 ⟨iv, iw, ix, iy, iz, j0, rfl, rfl, p8, p9⟩
 refine a0d Y Y Y (a0l Y Y Y Y (a0l Y Y Y Y (a1f ze37 Y Y Y p7 ?_)))
 intro b8 t7 pa
 refine a0s sz37 Y pa Y Y Y Y (i := 0) Y Y Y Y ?_
 intro t8 mo
 refine a0b Y Y Y (a0g (a0c (a0h (a0a ?_))))
 obtain ⟨v7, sn, hm⟩ := Yb hm
 refine a0i ent30 Y Y Y Y mo (a3m _ _ _ sn mo.sat) ?_
 rintro _ t9 _ ta ju mp ⟨tb, tc, td, rfl, rfl, pb⟩
 refine a1y (v := .agg #[.int .i64 4, .int .i64 0, vs [103, 108, 97, 115, 115], .slice none 0 0]) Y Y Y (fun _ => by kernel_rfl) ?_
 obtain ⟨v8, so, hm⟩ := Yb hm
 refine a0i ent29 Y Y Y Y mp (a3h _ _ _ _ so mp.sat pb (SlR.nil _ _)) ?_
 rintro _ te _ tf jv pc ⟨tg, th, ti, xss15, rfl, rfl, pd⟩
 obtain ⟨tj, jw, mq, hsx3⟩ := a1h pc (i := 0) Y pd
 obtain ⟨v9, sp, hm⟩ := Yb hm
 refine a0i ent28 Y Y Y Y mq (a2a _ _ _ _ sp mq.sat hsx3) ?_
 rintro _ mr _ tk jx pe ⟨R, T, U, rfl, rfl, ik⟩
 refine a1f ze24 Y Y Y pe ?_
 intro b9 tl pf
 refine a0s sz24 Y pf Y Y Y Y (i := 0) Y Y Y Y ?_
 intro tm pg
 refine a0g (a0c ?_)
 obtain ⟨⟨f9, f10, f11, f12⟩, z, hm⟩ := Yb hm
 refine c8s (fun a w' => ∃ (jy : Frz) (b10 : Nat) (i9 : Option Addr) (ia : Nat) (ib : Nat), Frz.le mr jy ∧ HS F w [] jy [.box b10 24 [.int .i64 f9, .int .i64 f10, vs f11, .slice i9 ia ib], .box b9 24 [.int .i64 v9.Op, .int .i64 v9.N, vs v9.Name, .slice R T U], .box b8 37 [.int .i64 v6.1.P.Sign, .slice iv iw ix, .int .i64 v6.1.Q.Sign, .slice iy iz j0], .box b7 24 [.int .i64 f5, .int .i64 f6, vs f7, .slice ip iq ir], .box b6 37 [.int .i64 f1, .slice i3 i4 i5, .int .i64 f3, .slice i6 i7 i8], .box b5 24 [.int .i64 2, .int .i64 0, vs [], .slice none 0 0], .box b4 24 [.int .i64 4, .int .i64 0, vs [112, 97, 112, 101, 114], .slice none 0 0], .box b2 37 [.int .i64 v2.1.P.Sign, .slice hx hy hz, .int .i64 v2.1.Q.Sign, .slice i0 i1 i2], .box b1 37 [.int .i64 v1.1.P.Sign, .slice h8 h9 hb, .int .i64 v1.1.Q.Sign, .slice hc hd he]] w' ∧ (SlR rp_Expr jy i9 ia ib f12) ∧ Has 129 a [(3, .pointer (some ⟨b2, 0, none⟩)), (5, .slice (some ⟨b3, 0, none⟩) 2 2), (8, .pointer (some ⟨b6, 0, none⟩)), (9, .int .i64 ex1), (11, .pointer (some ⟨b8, 0, none⟩)), (12, .int .i64 v6.2), (14, .pointer (some ⟨b10, 0, none⟩))]) ?_ ?_
 rintro a tn ⟨jy, b10, i9, ia, ib, jz, l8, ms, ph⟩
 refine a1n ph (a0h (a0a (a0m ag24 sz24 Y Y l8 Y (i := 0) Y Y (a0d Y Y Y ?_))))
 have mt := (((((om.trans l7).trans ju).trans jv).trans jw).trans jx).trans jz
 obtain ⟨v10, pi, hm⟩ := Yb hm
 refine a0i ent27 Y Y Y Y l8 (a5z _ _ _ _ pi l8.sat ms (hsx1.mono mt)) ?_
 rintro _ mu _ to j1 pj ⟨k0, k1, k2, k3, k4, k5, rfl, rfl, pk, pl⟩
 refine a0d Y Y Y (a0l Y Y Y Y (a0l Y Y Y Y (a1f ze37 Y Y Y pj ?_)))
 intro b11 tp pm
 refine a0s sz37 Y pm Y Y Y Y (i := 0) Y Y Y Y ?_
 intro tq mv
 refine a0b Y Y Y (a0g (a0c (a0h (a0a (a0m ag24 sz24 Y Y mv Y (i := 1) Y Y (a1y (v := .agg #[vs [97], .int .i64 f9, .int .i64 f10, vs f11, .slice i9 ia ib, .int .i64 5]) Y Y Y (fun _ => by kernel_rfl) (a1v (e := 9) (cs := [vs [112, 97, 112, 101, 114], vs [103, 108, 97, 115, 115]]) (q := 1) Y Y mv Y (fun _ => by kernel_rfl) Y Y ?_)))))))
 intro b12 tr pn
 refine a1v (e := 3) (cs := [.int .i64 4, .int .i64 0]) (q := 1) Y Y pn Y (fun _ => by kernel_rfl) Y Y ?_
 intro b13 ts po
 obtain ⟨tt, ic, pp, hsx4⟩ := a1h po (i := 0) Y ((show RowN (Rp.int .i64) mu 2 [.int .i64 4, .int .i64 0] [4, 0] from ⟨Y, ⟨_, _, Y, Y, ⟨_, _, Y, Y, (Y : RowR (Rp.int .i64) _ [] [])⟩⟩⟩))
 refine a1y (v := .agg #[.slice (some ⟨b13, 0, none⟩) 2 2, .int .i64 3, .int .i64 1]) Y Y Y (fun _ => by kernel_rfl) (a0d Y Y Y ?_)
 obtain ⟨tu, id, mw, hsx5⟩ := a1h pp (i := 0) Y ((show RowN Rp.str mu 2 [vs [112, 97, 112, 101, 114], vs [103, 108, 97, 115, 115]] [[112, 97, 112, 101, 114], [103, 108, 97, 115, 115]] from ⟨Y, ⟨_, _, Y, Y, ⟨_, _, Y, Y, (Y : RowR Rp.str _ [] [])⟩⟩⟩).mono ic)
 obtain ⟨v11, pq, hm⟩ := Yb hm
 refine a0i ent10 Y Y Y Y mw (b7h _ _ _ _ _ _ pq mw.sat (((ms.mono j1).mono ic).mono id) hsx5 (hsx4.mono id) ((((hsx1.mono mt).mono j1).mono ic).mono id)) ?_
 rintro _ tv _ tw jc pr ⟨k6, k7, k8, k9, ka, kb, rfl, rfl, ps, pt⟩
 refine a0d Y Y Y (a0l Y Y Y Y (a0l Y Y Y Y (a1f ze37 Y Y Y pr ?_)))
 intro b14 tx pu
 refine a0s sz37 Y pu Y Y Y Y (i := 0) Y Y Y Y ?_
 intro ty mx
 refine a0b Y Y Y (a0g (a0c (a0h (a0a (a1y (v := .agg #[.int .i64 4, .int .i64 0, vs [116, 105, 110], .slice none 0 0]) Y Y Y (fun _ => by kernel_rfl) (a0d Y Y Y ?_))))))
 have sq := (((mt.trans j1).trans ic).trans id).trans jc
 obtain ⟨v12, pv, hm⟩ := Yb hm
 refine a0i ent27 Y Y Y Y mx (a5z _ _ _ _ pv mx.sat (SlR.nil _ _) (hsx1.mono sq)) ?_
 rintro _ pw _ tz jd px ⟨kc, kd, ke, kf, kg, kh, rfl, rfl, u0, u1⟩
 refine a0d Y Y Y (a0l Y Y Y Y (a0l Y Y Y Y (a1f ze37 Y Y Y px ?_)))
 intro b15 u2 py
 refine a0s sz37 Y py Y Y Y Y (i := 0) Y Y Y Y ?_
 intro ki my
 refine a0b Y Y Y (a0g (a0c (a0h (a0h (a0a (a0d Y Y Y (a0u Y Y Y Y Y (a0d Y Y Y ?_))))))))
 obtain ⟨v13, l2, hm⟩ := Yb hm
 refine a1z 3 (fun a w' => ki = w' ∧ Has 129 a [(3, .pointer (some ⟨b2, 0, none⟩)), (8, .pointer (some ⟨b6, 0, none⟩)), (11, .pointer (some ⟨b8, 0, none⟩)), (15, .pointer (some ⟨b11, 0, none⟩)), (16, .int .i64 v10.2), (17, .pointer (some ⟨b14, 0, none⟩)), (18, .int .i64 v11.2), (20, .int .i64 v12.2), (98, .bool v13)]) ?_ ?_
 rintro a u3 ⟨rfl, pz⟩
 refine a0z pz (a0d Y Y Y ?_)
 obtain ⟨v14, l3, hm⟩ := Yb hm
 refine a1z 3 (fun a w' => ki = w' ∧ Has 129 a [(3, .pointer (some ⟨b2, 0, none⟩)), (8, .pointer (some ⟨b6, 0, none⟩)), (11, .pointer (some ⟨b8, 0, none⟩)), (15, .pointer (some ⟨b11, 0, none⟩)), (17, .pointer (some ⟨b14, 0, none⟩)), (18, .int .i64 v11.2), (20, .int .i64 v12.2), (102, .bool v14)]) ?_ ?_
 rintro a u4 ⟨rfl, q0⟩
 refine a0z q0 (a0d Y Y Y ?_)
 obtain ⟨v15, l4, hm⟩ := Yb hm
 refine a1z 3 (fun a w' => ki = w' ∧ Has 129 a [(3, .pointer (some ⟨b2, 0, none⟩)), (8, .pointer (some ⟨b6, 0, none⟩)), (11, .pointer (some ⟨b8, 0, none⟩)), (15, .pointer (some ⟨b11, 0, none⟩)), (17, .pointer (some ⟨b14, 0, none⟩)), (20, .int .i64 v12.2), (106, .bool v15)]) ?_ ?_
 rintro a u5 ⟨rfl, q1⟩
 refine a0z q1 (a0d Y Y Y ?_)
 obtain ⟨v16, l5, hm⟩ := Yb hm
 refine a1z 3 (fun a w' => ki = w' ∧ Has 129 a [(3, .pointer (some ⟨b2, 0, none⟩)), (8, .pointer (some ⟨b6, 0, none⟩)), (11, .pointer (some ⟨b8, 0, none⟩)), (15, .pointer (some ⟨b11, 0, none⟩)), (17, .pointer (some ⟨b14, 0, none⟩)), (110, .bool v16)]) ?_ ?_
 rintro a u6 ⟨rfl, q2⟩
 refine a0z q2 (a0g (a0c ?_))
 rcases a0f hm with ⟨mz, hm⟩ | ⟨mz, hm⟩
 refine a0r 110 Y mz (a0y Y (a0h (a0a (a0b Y Y Y (a0g (a0c (a1d (a0j (a1j Y Y ?_)))))))))
 obtain rfl := Yo hm
 exact ⟨_, _, _, Y, my.Yp [] Y Y, Y, Y⟩
 refine a0r 110 Y mz (a0q Y (a1c (a0c (a0h ?_))))
 refine a2l (SH pw [.box b15 37 [.int .i64 v12.1.P.Sign, .slice kc kd ke, .int .i64 v12.1.Q.Sign, .slice kf kg kh], .box b14 37 [.int .i64 v11.1.P.Sign, .slice k6 k7 k8, .int .i64 v11.1.Q.Sign, .slice k9 ka kb], .box b11 37 [.int .i64 v10.1.P.Sign, .slice k0 k1 k2, .int .i64 v10.1.Q.Sign, .slice k3 k4 k5], .box b10 24 [.int .i64 f9, .int .i64 f10, vs f11, .slice i9 ia ib], .box b9 24 [.int .i64 v9.Op, .int .i64 v9.N, vs v9.Name, .slice R T U], .box b8 37 [.int .i64 v6.1.P.Sign, .slice iv iw ix, .int .i64 v6.1.Q.Sign, .slice iy iz j0], .box b7 24 [.int .i64 f5, .int .i64 f6, vs f7, .slice ip iq ir], .box b6 37 [.int .i64 f1, .slice i3 i4 i5, .int .i64 f3, .slice i6 i7 i8], .box b5 24 [.int .i64 2, .int .i64 0, vs [], .slice none 0 0], .box b4 24 [.int .i64 4, .int .i64 0, vs [112, 97, 112, 101, 114], .slice none 0 0], .box b2 37 [.int .i64 v2.1.P.Sign, .slice hx hy hz, .int .i64 v2.1.Q.Sign, .slice i0 i1 i2], .box b1 37 [.int .i64 v1.1.P.Sign, .slice h8 h9 hb, .int .i64 v1.1.Q.Sign, .slice hc hd he]]) 19 Y (by kernel_rfl) my ?_
 intro u7 kj
 refine d_tk 0 Y (by kernel_rfl) Y Y Y Y (kj.Ys Yf [0, 1, 2, 3, 4, 5, 6, 7, 8, 9, 10, 11] Y Y) (fun _ _ _ _ hq => a0m ag37 sz37 Y Y hq Y (i := 7) Y Y Yn) (d_tk 1 Y (by kernel_rfl) Y Y Y Y (kj.Ys Yf [0, 1, 2, 3, 4, 5, 6, 7, 8, 9, 10, 11] Y Y) (fun _ _ _ _ hq => a0m ag37 sz37 Y Y hq Y (i := 10) Y Y Yn) (a1b 2 Y (by kernel_rfl) ?_))
 have on := (((((((((((((mi.trans mj).trans mk).trans mm).trans l7).trans ju).trans jv).trans jw).trans jx).trans jz).trans j1).trans ic).trans id).trans jc).trans jd
 have oo := ((((((((((((((((jt.trans sf).trans ol).trans mi).trans mj).trans mk).trans mm).trans l7).trans ju).trans jv).trans jw).trans jx).trans jz).trans j1).trans ic).trans id).trans jc).trans jd
 obtain ⟨v17, q3, hm⟩ := Yb hm
 refine a0i ent12 Y Y Y Y kj (a8s _ _ _ _ q3 kj.sat (sg.mono on) (si.mono on) (s7.mono oo) (s8.mono oo)) ?_
 rintro _ q4 _ u8 gl kk ⟨rfl, rfl⟩
 have S0 := kk.Ys gl [0, 1, 2, 3, 4, 5, 6, 7, 8, 9, 10, 11] Y Y
 refine a0w S0 (d_tk 3 Y (by kernel_rfl) Y Y Y Y S0 (fun _ _ _ _ _ => a0d Y Y Y Yn) ?_)
 obtain ⟨v18, it, hm⟩ := Yb hm
 refine c5c (fuel' := 11) (listed' := #[true, true, true, true, true, true, true, true, false, false, false, false, false, false, false, false, false, false, false]) (fun a w' => ∃ (kl : Frz), Frz.le q4 kl ∧ HS F w [] kl [.box b15 37 [.int .i64 v12.1.P.Sign, .slice kc kd ke, .int .i64 v12.1.Q.Sign, .slice kf kg kh], .box b14 37 [.int .i64 v11.1.P.Sign, .slice k6 k7 k8, .int .i64 v11.1.Q.Sign, .slice k9 ka kb], .box b11 37 [.int .i64 v10.1.P.Sign, .slice k0 k1 k2, .int .i64 v10.1.Q.Sign, .slice k3 k4 k5], .box b10 24 [.int .i64 f9, .int .i64 f10, vs f11, .slice i9 ia ib], .box b9 24 [.int .i64 v9.Op, .int .i64 v9.N, vs v9.Name, .slice R T U], .box b8 37 [.int .i64 v6.1.P.Sign, .slice iv iw ix, .int .i64 v6.1.Q.Sign, .slice iy iz j0], .box b7 24 [.int .i64 f5, .int .i64 f6, vs f7, .slice ip iq ir], .box b6 37 [.int .i64 f1, .slice i3 i4 i5, .int .i64 f3, .slice i6 i7 i8], .box b5 24 [.int .i64 2, .int .i64 0, vs [], .slice none 0 0], .box b4 24 [.int .i64 4, .int .i64 0, vs [112, 97, 112, 101, 114], .slice none 0 0], .box b2 37 [.int .i64 v2.1.P.Sign, .slice hx hy hz, .int .i64 v2.1.Q.Sign, .slice i0 i1 i2], .box b1 37 [.int .i64 v1.1.P.Sign, .slice h8 h9 hb, .int .i64 v1.1.Q.Sign, .slice hc hd he]] w' ∧ Has 129 a [(15, .pointer (some ⟨b11, 0, none⟩)), (17, .pointer (some ⟨b14, 0, none⟩)), (118, .bool v18)]) ?_ (fun op => ?_)
 rintro a u9 ⟨kl, gu, km, q5⟩
 refine b2p q5 ?_
 have S1 := km.Ys (gl.trans gu) [0, 1, 2, 3, 4, 5, 6, 7, 8, 9, 10, 11] Y Y
 refine d_tk 8 Y (by kernel_rfl) Y Y Y Y S1 (fun _ _ _ _ _ => a0d Y Y Y Yn) ?_
 obtain ⟨v19, hh, hm⟩ := Yb hm
 refine c5c (fuel' := 6) (listed' := #[true, true, true, true, true, true, true, true, true, true, true, true, true, false, false, false, false, false, false]) (fun a w' => ∃ (kn : Frz), Frz.le kl kn ∧ HS F w [] kn [.box b15 37 [.int .i64 v12.1.P.Sign, .slice kc kd ke, .int .i64 v12.1.Q.Sign, .slice kf kg kh], .box b14 37 [.int .i64 v11.1.P.Sign, .slice k6 k7 k8, .int .i64 v11.1.Q.Sign, .slice k9 ka kb], .box b11 37 [.int .i64 v10.1.P.Sign, .slice k0 k1 k2, .int .i64 v10.1.Q.Sign, .slice k3 k4 k5], .box b10 24 [.int .i64 f9, .int .i64 f10, vs f11, .slice i9 ia ib], .box b9 24 [.int .i64 v9.Op, .int .i64 v9.N, vs v9.Name, .slice R T U], .box b8 37 [.int .i64 v6.1.P.Sign, .slice iv iw ix, .int .i64 v6.1.Q.Sign, .slice iy iz j0], .box b7 24 [.int .i64 f5, .int .i64 f6, vs f7, .slice ip iq ir], .box b6 37 [.int .i64 f1, .slice i3 i4 i5, .int .i64 f3, .slice i6 i7 i8], .box b5 24 [.int .i64 2, .int .i64 0, vs [], .slice none 0 0], .box b4 24 [.int .i64 4, .int .i64 0, vs [112, 97, 112, 101, 114], .slice none 0 0], .box b2 37 [.int .i64 v2.1.P.Sign, .slice hx hy hz, .int .i64 v2.1.Q.Sign, .slice i0 i1 i2], .box b1 37 [.int .i64 v1.1.P.Sign, .slice h8 h9 hb, .int .i64 v1.1.Q.Sign, .slice hc hd he]] w' ∧ Has 129 a [(17, .pointer (some ⟨b14, 0, none⟩)), (123, .bool v19)]) ?_ (fun oq => ?_)
 rintro a ua ⟨kn, j2, ko, q6⟩
 refine b2p q6 ?_
 have S2 := ko.Ys ((gl.trans gu).trans j2) [0, 1, 2, 3, 4, 5, 6, 7, 8, 9, 10, 11] Y Y
 refine d_tk 13 Y (by kernel_rfl) Y Y Y Y S2 (fun _ _ _ _ _ => a0d Y Y Y Yn) ?_
 obtain ⟨v20, hi, hm⟩ := Yb hm
 refine c5c (fuel' := 1) (listed' := #[true, true, true, true, true, true, true, true, true, true, true, true, true, true, true, true, true, true, false]) (fun a w' => ∃ (l9 : Frz), Frz.le kn l9 ∧ HS F w [] l9 [.box b15 37 [.int .i64 v12.1.P.Sign, .slice kc kd ke, .int .i64 v12.1.Q.Sign, .slice kf kg kh], .box b14 37 [.int .i64 v11.1.P.Sign, .slice k6 k7 k8, .int .i64 v11.1.Q.Sign, .slice k9 ka kb], .box b11 37 [.int .i64 v10.1.P.Sign, .slice k0 k1 k2, .int .i64 v10.1.Q.Sign, .slice k3 k4 k5], .box b10 24 [.int .i64 f9, .int .i64 f10, vs f11, .slice i9 ia ib], .box b9 24 [.int .i64 v9.Op, .int .i64 v9.N, vs v9.Name, .slice R T U], .box b8 37 [.int .i64 v6.1.P.Sign, .slice iv iw ix, .int .i64 v6.1.Q.Sign, .slice iy iz j0], .box b7 24 [.int .i64 f5, .int .i64 f6, vs f7, .slice ip iq ir], .box b6 37 [.int .i64 f1, .slice i3 i4 i5, .int .i64 f3, .slice i6 i7 i8], .box b5 24 [.int .i64 2, .int .i64 0, vs [], .slice none 0 0], .box b4 24 [.int .i64 4, .int .i64 0, vs [112, 97, 112, 101, 114], .slice none 0 0], .box b2 37 [.int .i64 v2.1.P.Sign, .slice hx hy hz, .int .i64 v2.1.Q.Sign, .slice i0 i1 i2], .box b1 37 [.int .i64 v1.1.P.Sign, .slice h8 h9 hb, .int .i64 v1.1.Q.Sign, .slice hc hd he]] w' ∧ Has 129 a [(128, .bool v20)]) ?_ (fun os => ?_)
 rintro a ub ⟨l9, q7, o0, og⟩
 refine b2p og (d_tk 18 Y (by kernel_rfl) Y Y Y Y (o0.Ys (((gl.trans gu).trans j2).trans q7) [0, 1, 2, 3, 4, 5, 6, 7, 8, 9, 10, 11] Y Y) (fun _ _ _ _ _ => a0b Y Y Y Yn) (a2x (by kernel_rfl) (a0c (a1d (a1j Y Y ?_)))))
 obtain rfl := Yo hm
 exact ⟨_, _, _, Y, o0.Yp [] Y Y, Y, Y⟩
 clear hm
 rcases a0f hi with ⟨la, hi⟩ | ⟨la, hi⟩
 refine b5z 124 Y la (d_tk 14 Y (by kernel_rfl) Y Y Y Y S2 (fun _ _ _ _ hq => a0m ag37 sz37 Y Y hq Y (i := 1) Y Y Yn) (a1b 15 Y (by kernel_rfl) ?_))
 obtain ⟨v21, q8, hi⟩ := Yb hi
 refine a0i ent17 Y Y Y Y ko (a6y _ _ _ q8 ko.sat) ?_
 rintro _ uc _ ud je lb ⟨ue, uf, ug, uh, ui, uj, rfl, rfl, q9, qa⟩
 refine a0w (lb.Ys (((gl.trans gu).trans j2).trans je) [0, 1, 2, 3, 4, 5, 6, 7, 8, 9, 10, 11] Y Y) (a1b 16 Y (by kernel_rfl) ?_)
 have ot := (((jd.trans gl).trans gu).trans j2).trans je
 obtain ⟨v22, qb, hi⟩ := Yb hi
 refine a0i ent12 Y Y Y Y lb (a8s _ _ _ _ qb lb.sat (ps.mono ot) (pt.mono ot) q9 qa) ?_
 rintro _ uk _ ul lc ld ⟨rfl, rfl⟩
 refine a0w (ld.sh ((((gl.trans gu).trans j2).trans je).trans lc) [0, 1, 2, 3, 4, 5, 6, 7, 8, 9, 10, 11] (by decide) Y) (d_tk 17 Y (by kernel_rfl) Y Y Y Y (ld.sh ((((gl.trans gu).trans j2).trans je).trans lc) [0, 1, 2, 3, 4, 5, 6, 7, 8, 9, 10, 11] (by decide) Y) (fun _ _ _ _ _ => a0n Y Y Y Y Yn) (b6a os (by kernel_rfl) (fun a ha => ?_)))
 cases hi
 exact ⟨_, (je.trans lc), ld.Yp [0, 1, 2, 3, 4, 5, 6, 7, 8, 9, 10, 11] Y Y, ha.cut (l := [128]) Y⟩
 refine b5z 124 Y la (d_of 14 Y (by kernel_rfl) Y Y Y S2 (d_of 15 Y (by kernel_rfl) Y Y Y S2 (d_of 16 Y (by kernel_rfl) Y Y Y S2 (d_tk 17 Y (by kernel_rfl) Y Y Y Y S2 (fun _ _ _ _ _ => a0k Y Y Y Y Yn) (b6a os (by kernel_rfl) (fun a ha => ?_))))))
 cases hi
 exact ⟨_, Yf, ko.Yp [0, 1, 2, 3, 4, 5, 6, 7, 8, 9, 10, 11] Y Y, ha.cut (l := [128]) Y⟩
 clear hm
 rcases a0f hh with ⟨lf, hh⟩ | ⟨lf, hh⟩
 refine b5z 119 Y lf (d_tk 9 Y (by kernel_rfl) Y Y Y Y S1 (fun _ _ _ _ hq => a0m ag37 sz37 Y Y hq Y (i := 2) Y Y Yn) (a1b 10 Y (by kernel_rfl) ?_))
 obtain ⟨v23, qc, hh⟩ := Yb hh
 refine a0i ent17 Y Y Y Y km (a6y _ _ _ qc km.sat) ?_
 rintro _ um _ un jf lg ⟨uo, up, uq, ur, us, ut, rfl, rfl, qd, qe⟩
 refine a0w (lg.Ys ((gl.trans gu).trans jf) [0, 1, 2, 3, 4, 5, 6, 7, 8, 9, 10, 11] Y Y) (a1b 11 Y (by kernel_rfl) ?_)
 have ou := (((((ic.trans id).trans jc).trans jd).trans gl).trans gu).trans jf
 obtain ⟨v24, qf, hh⟩ := Yb hh
 refine a0i ent12 Y Y Y Y lg (a8s _ _ _ _ qf lg.sat (pk.mono ou) (pl.mono ou) qd qe) ?_
 rintro _ uu _ uv lh li ⟨rfl, rfl⟩
 refine a0w (li.Ys (((gl.trans gu).trans jf).trans lh) [0, 1, 2, 3, 4, 5, 6, 7, 8, 9, 10, 11] Y Y) (d_tk 12 Y (by kernel_rfl) Y Y Y Y (li.Ys (((gl.trans gu).trans jf).trans lh) [0, 1, 2, 3, 4, 5, 6, 7, 8, 9, 10, 11] Y Y) (fun _ _ _ _ _ => a0n Y Y Y Y Yn) (b6a oq (by kernel_rfl) (fun a ha => ?_)))
 cases hh
 exact ⟨_, (jf.trans lh), li.Yp [0, 1, 2, 3, 4, 5, 6, 7, 8, 9, 10, 11] Y Y, ha.cut (l := [17, 123]) Y⟩
 refine b5z 119 Y lf (d_of 9 Y (by kernel_rfl) Y Y Y S1 (d_of 10 Y (by kernel_rfl) Y Y Y S1 (d_of 11 Y (by kernel_rfl) Y Y Y S1 (d_tk 12 Y (by kernel_rfl) Y Y Y Y S1 (fun _ _ _ _ _ => a0k Y Y Y Y Yn) (b6a oq (by kernel_rfl) (fun a ha => ?_))))))
 cases hh
 exact ⟨_, Yf, km.Yp [0, 1, 2, 3, 4, 5, 6, 7, 8, 9, 10, 11] Y Y, ha.cut (l := [17, 123]) Y⟩
 clear hm
 rcases a0f it with ⟨lj, it⟩ | ⟨lj, it⟩
 refine b5z 114 Y lj (d_tk 4 Y (by kernel_rfl) Y Y Y Y S0 (fun _ _ _ _ hq => a0m ag37 sz37 Y Y hq Y (i := 5) Y Y Yn) (a1b 5 Y (by kernel_rfl) ?_))
 obtain ⟨v25, qg, it⟩ := Yb it
 refine a0i ent17 Y Y Y Y kk (a6y _ _ _ qg kk.sat) ?_
 rintro _ uw _ ux jg lk ⟨uy, uz, v0, va, vb, vc, rfl, rfl, qh, qi⟩
 refine a0w (lk.Ys (gl.trans jg) [0, 1, 2, 3, 4, 5, 6, 7, 8, 9, 10, 11] Y Y) (a1b 6 Y (by kernel_rfl) ?_)
 have ov := ((((((((((ju.trans jv).trans jw).trans jx).trans jz).trans j1).trans ic).trans id).trans jc).trans jd).trans gl).trans jg
 obtain ⟨v26, qj, it⟩ := Yb it
 refine a0i ent12 Y Y Y Y lk (a8s _ _ _ _ qj lk.sat (p8.mono ov) (p9.mono ov) qh qi) ?_
 rintro _ vd _ ve ll lm ⟨rfl, rfl⟩
 refine a0w (lm.Ys ((gl.trans jg).trans ll) [0, 1, 2, 3, 4, 5, 6, 7, 8, 9, 10, 11] Y Y) (d_tk 7 Y (by kernel_rfl) Y Y Y Y (lm.Ys ((gl.trans jg).trans ll) [0, 1, 2, 3, 4, 5, 6, 7, 8, 9, 10, 11] Y Y) (fun _ _ _ _ _ => a0n Y Y Y Y Yn) (b6a op (by kernel_rfl) (fun a ha => ?_)))
 cases it
 exact ⟨_, (jg.trans ll), lm.Yp [0, 1, 2, 3, 4, 5, 6, 7, 8, 9, 10, 11] Y Y, ha.cut (l := [15, 17, 118]) Y⟩
 refine b5z 114 Y lj (d_of 4 Y (by kernel_rfl) Y Y Y S0 (d_of 5 Y (by kernel_rfl) Y Y Y S0 (d_of 6 Y (by kernel_rfl) Y Y Y S0 (d_tk 7 Y (by kernel_rfl) Y Y Y Y S0 (fun _ _ _ _ _ => a0k Y Y Y Y Yn) (b6a op (by kernel_rfl) (fun a ha => ?_))))))
 cases it
 exact ⟨_, Yf, kk.Yp [0, 1, 2, 3, 4, 5, 6, 7, 8, 9, 10, 11] Y Y, ha.cut (l := [15, 17, 118]) Y⟩
 clear hm
 rcases a0f l5 with ⟨ln, l5⟩ | ⟨ln, l5⟩
 refine a1g 107 Y ln (a0t Y (by decide) Y (a0t Y (by decide) Y (a0n Y Y Y Y (a0g (a0o (fun a ha => ?_))))))
 cases l5
 exact ⟨Y, ha.cut (l := [3, 8, 11, 15, 17, 110]) Y⟩
 refine a1g 107 Y ln (a0d Y Y Y (a0u Y Y Y Y Y (a0k Y Y Y Y (a0g (a0o (fun a ha => ?_))))))
 cases l5
 exact ⟨Y, ha.cut (l := [3, 8, 11, 15, 17, 110]) Y⟩
 clear hm
 rcases a0f l4 with ⟨lo, l4⟩ | ⟨lo, l4⟩
 refine a1g 103 Y lo (a0t Y (by decide) Y (a0t Y (by decide) Y (a0n Y Y Y Y (a0g (a0o (fun a ha => ?_))))))
 cases l4
 exact ⟨Y, ha.cut (l := [3, 8, 11, 15, 17, 20, 106]) Y⟩
 refine a1g 103 Y lo (a0d Y Y Y (a0u Y Y Y Y Y (a0k Y Y Y Y (a0g (a0o (fun a ha => ?_))))))
 cases l4
 exact ⟨Y, ha.cut (l := [3, 8, 11, 15, 17, 20, 106]) Y⟩
 clear hm
 rcases a0f l3 with ⟨lp, l3⟩ | ⟨lp, l3⟩
 refine a1g 99 Y lp (a0t Y (by decide) Y (a0t Y (by decide) Y (a0n Y Y Y Y (a0g (a0o (fun a ha => ?_))))))
 cases l3
 exact ⟨Y, ha.cut (l := [3, 8, 11, 15, 17, 18, 20, 102]) Y⟩
 refine a1g 99 Y lp (a0d Y Y Y (a0u Y Y Y Y Y (a0k Y Y Y Y (a0g (a0o (fun a ha => ?_))))))
 cases l3
 exact ⟨Y, ha.cut (l := [3, 8, 11, 15, 17, 18, 20, 102]) Y⟩
 clear hm
 rcases a0f l2 with ⟨lq, l2⟩ | ⟨lq, l2⟩
 refine a1g 95 Y lq (a0t Y (by decide) Y (a0t Y (by decide) Y (a0n Y Y Y Y (a0g (a0o (fun a ha => ?_))))))
 cases l2
 exact ⟨Y, ha.cut (l := [3, 8, 11, 15, 16, 17, 18, 20, 98]) Y⟩
 refine a1g 95 Y lq (a0d Y Y Y (a0u Y Y Y Y Y (a0k Y Y Y Y (a0g (a0o (fun a ha => ?_))))))
 cases l2
 exact ⟨Y, ha.cut (l := [3, 8, 11, 15, 16, 17, 18, 20, 98]) Y⟩
 clear hm
 refine a2l (SH mr [.box b9 24 [.int .i64 v9.Op, .int .i64 v9.N, vs v9.Name, .slice R T U], .box b8 37 [.int .i64 v6.1.P.Sign, .slice iv iw ix, .int .i64 v6.1.Q.Sign, .slice iy iz j0], .box b7 24 [.int .i64 f5, .int .i64 f6, vs f7, .slice ip iq ir], .box b6 37 [.int .i64 f1, .slice i3 i4 i5, .int .i64 f3, .slice i6 i7 i8], .box b5 24 [.int .i64 2, .int .i64 0, vs [], .slice none 0 0], .box b4 24 [.int .i64 4, .int .i64 0, vs [112, 97, 112, 101, 114], .slice none 0 0], .box b2 37 [.int .i64 v2.1.P.Sign, .slice hx hy hz, .int .i64 v2.1.Q.Sign, .slice i0 i1 i2], .box b1 37 [.int .i64 v1.1.P.Sign, .slice h8 h9 hb, .int .i64 v1.1.Q.Sign, .slice hc hd he]]) 10 Y (by kernel_rfl) pg ?_
 intro vf jh
 refine d_tk 0 Y (by kernel_rfl) Y Y Y Y (jh.Ys Yf [0, 1, 2, 3, 4, 5, 6, 7] Y Y) (fun _ _ _ _ hq => a0m ag24 sz24 Y Y hq Y (i := 4) Y Y Yn) (d_tk 5 Y (by kernel_rfl) Y Y Y Y (jh.Ys Yf [0, 1, 2, 3, 4, 5, 6, 7] Y Y) (fun _ _ _ _ hq => a0m ag24 sz24 Y Y hq Y (i := 0) Y Y Yn) (b1q 1 8 Y Y (by kernel_rfl) ?_ ?_))
 obtain ⟨v27, lr, z⟩ := Yb z
 refine a0i ent30 Y Y Y Y jh (a3m _ _ _ lr jh.sat) ?_
 rintro _ qk _ ql g ie ⟨qm, qn, qo, rfl, rfl, kp⟩
 refine a0w (ie.Ys g [0, 1, 2, 3, 4, 5, 6, 7] Y Y) (b1q 2 8 Y Y (by kernel_rfl) ?_ ?_)
 obtain ⟨v28, ji, z⟩ := Yb z
 refine a0i ent29 Y Y Y Y ie (a3h _ _ _ _ ji ie.sat (SlR.nil _ _) kp) ?_
 rintro _ o1 _ o2 k gv ⟨o3, o4, o5, xss31, rfl, rfl, j3⟩
 refine a0w (gv.Ys (g.trans k) [1, 2, 3, 4, 5, 6, 7, 8] Y Y) (b1q 3 8 Y Y (by kernel_rfl) ?_ ?_)
 obtain ⟨ls, p, gw, hsx6⟩ := a1h gv (i := 0) Y j3
 obtain ⟨v29, il, z⟩ := Yb z
 refine a0i ent28 Y Y Y Y gw (a2a _ _ _ _ il gw.sat hsx6) ?_
 rintro _ lt _ lu s gm ⟨g5, g6, g7, rfl, rfl, hf⟩
 refine a0w (gm.Ys (((g.trans k).trans p).trans s) [0, 1, 2, 3, 4, 5, 6, 7] Y Y) (b1q 4 8 Y Y (by kernel_rfl) ?_ ?_)
 obtain ⟨v30, hj, z⟩ := Yb z
 refine a0i ent30 Y Y Y Y gm (a3m _ _ _ hj gm.sat) ?_
 rintro _ gx _ kq m gd ⟨g0, g1, g2, rfl, rfl, gy⟩
 refine a0w (gd.sh ((((g.trans k).trans p).trans s).trans m) [0, 1, 2, 3, 4, 5, 6, 7] (by decide) Y) (b1q 6 8 Y Y (by kernel_rfl) ?_ ?_)
 refine a1v (e := 24) (cs := [.int .i64 v29.Op, .int .i64 v29.N, vs v29.Name, .slice g5 g6 g7, .int .i64 v30.Op, .int .i64 v30.N, vs v30.Name, .slice g0 g1 g2, .int .i64 v9.Op, .int .i64 v9.N, vs v9.Name, .slice R T U]) (q := 4) Y Y gd Y (fun _ => by kernel_rfl) Y Y ?_
 intro b16 jj gg
 refine a0w (gg.sh ((((g.trans k).trans p).trans s).trans m) [1, 2, 3, 4, 5, 6, 7, 8] (by decide) Y) (b1q 7 8 Y Y (by kernel_rfl) ?_ ?_)
 obtain ⟨j4, L, g9, hsx7⟩ := a1h gg (i := 0) Y ((show RowN rp_Expr gx 3 [.int .i64 v29.Op, .int .i64 v29.N, vs v29.Name, .slice g5 g6 g7, .int .i64 v30.Op, .int .i64 v30.N, vs v30.Name, .slice g0 g1 g2, .int .i64 v9.Op, .int .i64 v9.N, vs v9.Name, .slice R T U] [v29, v30, v9] from ⟨Y, ⟨_, _, Y, (expr_iff.2 ⟨g5, g6, g7, Y, (hf.mono m)⟩), ⟨_, _, Y, (expr_iff.2 ⟨g0, g1, g2, Y, gy⟩), ⟨_, _, Y, (expr_iff.2 ⟨R, T, U, Y, (((((ik.mono g).mono k).mono p).mono s).mono m)⟩), (Y : RowR rp_Expr _ [] [])⟩⟩⟩⟩))
 obtain ⟨v31, gn, z⟩ := Yb z
 refine a0i ent28 Y Y Y Y g9 (a2a _ _ _ _ gn g9.sat hsx7) ?_
 rintro _ j5 _ j6 M ga ⟨go, gp, gq, rfl, rfl, gr⟩
 refine a0w (ga.sh ((((((g.trans k).trans p).trans s).trans m).trans L).trans M) [0, 1, 2, 3, 4, 5, 6, 7] (by decide) Y) (a1b 8 Y (by kernel_rfl) (a1f ze24 Y Y Y ga ?_))
 intro b17 j7 gb
 refine a0w (gb.sh ((((((g.trans k).trans p).trans s).trans m).trans L).trans M) [1, 2, 3, 4, 5, 6, 7, 8] (by decide) Y) (a1b 9 Y (by kernel_rfl) (a0s sz24 Y gb Y Y Y Y (i := 0) Y Y Y Y ?_))
 intro j8 gc
 refine a0w (gc.sh ((((((g.trans k).trans p).trans s).trans m).trans L).trans M) [1, 2, 3, 4, 5, 6, 7, 8] (by decide) Y) (a2x (by kernel_rfl) (a0o (fun a ha => ?_)))
 cases z
 exact ⟨_, b17, go, gp, gq, ((((((g.trans k).trans p).trans s).trans m).trans L).trans M), gc.Yp [0, 1, 2, 3, 4, 5, 6, 7, 8] Y Y, gr, ha.cut (l := [3, 5, 8, 9, 11, 12, 14]) Y⟩
 refine a1f ze24 Y Y Y gg ?_
 intro b17 j6 g9
 refine a0w (g9.sh ((((g.trans k).trans p).trans s).trans m) [2, 3, 4, 5, 6, 7, 8, 9] (by decide) Y) (a1b 7 Y (by kernel_rfl) ?_)
 obtain ⟨j4, L, ga, hsx7⟩ := a1h g9 (i := 1) Y ((show RowN rp_Expr gx 3 [.int .i64 v29.Op, .int .i64 v29.N, vs v29.Name, .slice g5 g6 g7, .int .i64 v30.Op, .int .i64 v30.N, vs v30.Name, .slice g0 g1 g2, .int .i64 v9.Op, .int .i64 v9.N, vs v9.Name, .slice R T U] [v29, v30, v9] from ⟨Y, ⟨_, _, Y, (expr_iff.2 ⟨g5, g6, g7, Y, (hf.mono m)⟩), ⟨_, _, Y, (expr_iff.2 ⟨g0, g1, g2, Y, gy⟩), ⟨_, _, Y, (expr_iff.2 ⟨R, T, U, Y, (((((ik.mono g).mono k).mono p).mono s).mono m)⟩), (Y : RowR rp_Expr _ [] [])⟩⟩⟩⟩))
 obtain ⟨v31, gn, z⟩ := Yb z
 refine a0i ent28 Y Y Y Y ga (a2a _ _ _ _ gn ga.sat hsx7) ?_
 rintro _ j5 _ j7 M gb ⟨go, gp, gq, rfl, rfl, gr⟩
 refine a0w (gb.sh ((((((g.trans k).trans p).trans s).trans m).trans L).trans M) [1, 2, 3, 4, 5, 6, 7, 8] (by decide) Y) (a1b 9 Y (by kernel_rfl) (a0s sz24 Y gb Y Y Y Y (i := 0) Y Y Y Y ?_))
 intro j8 gc
 refine a0w (gc.sh ((((((g.trans k).trans p).trans s).trans m).trans L).trans M) [1, 2, 3, 4, 5, 6, 7, 8] (by decide) Y) (a2x (by kernel_rfl) (a0o (fun a ha => ?_)))
 cases z
 exact ⟨_, b17, go, gp, gq, ((((((g.trans k).trans p).trans s).trans m).trans L).trans M), gc.Yp [0, 1, 2, 3, 4, 5, 6, 7, 8] Y Y, gr, ha.cut (l := [3, 5, 8, 9, 11, 12, 14]) Y⟩
 refine a1f ze24 Y Y Y gd ?_
 intro b16 jj gg
 refine a0w (gg.sh ((((g.trans k).trans p).trans s).trans m) [1, 2, 3, 4, 5, 6, 7, 8] (by decide) Y) (a1b 6 Y (by kernel_rfl) (a1v (e := 24) (cs := [.int .i64 v29.Op, .int .i64 v29.N, vs v29.Name, .slice g5 g6 g7, .int .i64 v30.Op, .int .i64 v30.N, vs v30.Name, .slice g0 g1 g2, .int .i64 v9.Op, .int .i64 v9.N, vs v9.Name, .slice R T U]) (q := 4) Y Y gg Y (fun _ => by kernel_rfl) Y Y ?_))
 intro b17 j6 g9
 refine a0w (g9.sh ((((g.trans k).trans p).trans s).trans m) [2, 3, 4, 5, 6, 7, 8, 9] (by decide) Y) (a1b 7 Y (by kernel_rfl) ?_)
 obtain ⟨j4, L, ga, hsx7⟩ := a1h g9 (i := 0) Y ((show RowN rp_Expr gx 3 [.int .i64 v29.Op, .int .i64 v29.N, vs v29.Name, .slice g5 g6 g7, .int .i64 v30.Op, .int .i64 v30.N, vs v30.Name, .slice g0 g1 g2, .int .i64 v9.Op, .int .i64 v9.N, vs v9.Name, .slice R T U] [v29, v30, v9] from ⟨Y, ⟨_, _, Y, (expr_iff.2 ⟨g5, g6, g7, Y, (hf.mono m)⟩), ⟨_, _, Y, (expr_iff.2 ⟨g0, g1, g2, Y, gy⟩), ⟨_, _, Y, (expr_iff.2 ⟨R, T, U, Y, (((((ik.mono g).mono k).mono p).mono s).mono m)⟩), (Y : RowR rp_Expr _ [] [])⟩⟩⟩⟩))
 obtain ⟨v31, gn, z⟩ := Yb z
 refine a0i ent28 Y Y Y Y ga (a2a _ _ _ _ gn ga.sat hsx7) ?_
 rintro _ j5 _ j7 M gb ⟨go, gp, gq, rfl, rfl, gr⟩
 refine a0w (gb.sh ((((((g.trans k).trans p).trans s).trans m).trans L).trans M) [1, 2, 3, 4, 5, 6, 7, 8] (by decide) Y) (a1b 9 Y (by kernel_rfl) (a0s sz24 Y gb Y Y Y Y (i := 0) Y Y Y Y ?_))
 intro j8 gc
 refine a0w (gc.sh ((((((g.trans k).trans p).trans s).trans m).trans L).trans M) [1, 2, 3, 4, 5, 6, 7, 8] (by decide) Y) (a2x (by kernel_rfl) (a0o (fun a ha => ?_)))
 cases z
 exact ⟨_, b16, go, gp, gq, ((((((g.trans k).trans p).trans s).trans m).trans L).trans M), gc.Yp [0, 1, 2, 3, 4, 5, 6, 7, 8] Y Y, gr, ha.cut (l := [3, 5, 8, 9, 11, 12, 14]) Y⟩
 refine a1f ze24 Y Y Y gm ?_
 intro b16 kq gd
 refine a0w (gd.Ys (((g.trans k).trans p).trans s) [1, 2, 3, 4, 5, 6, 7, 8] Y Y) (a1b 4 Y (by kernel_rfl) ?_)
 obtain ⟨v30, hj, z⟩ := Yb z
 refine a0i ent30 Y Y Y Y gd (a3m _ _ _ hj gd.sat) ?_
 rintro _ gx _ jj m gg ⟨g0, g1, g2, rfl, rfl, gy⟩
 refine a0w (gg.sh ((((g.trans k).trans p).trans s).trans m) [1, 2, 3, 4, 5, 6, 7, 8] (by decide) Y) (a1b 6 Y (by kernel_rfl) (a1v (e := 24) (cs := [.int .i64 v29.Op, .int .i64 v29.N, vs v29.Name, .slice g5 g6 g7, .int .i64 v30.Op, .int .i64 v30.N, vs v30.Name, .slice g0 g1 g2, .int .i64 v9.Op, .int .i64 v9.N, vs v9.Name, .slice R T U]) (q := 4) Y Y gg Y (fun _ => by kernel_rfl) Y Y ?_))
 intro b17 j6 g9
 refine a0w (g9.sh ((((g.trans k).trans p).trans s).trans m) [2, 3, 4, 5, 6, 7, 8, 9] (by decide) Y) (a1b 7 Y (by kernel_rfl) ?_)
 obtain ⟨j4, L, ga, hsx7⟩ := a1h g9 (i := 0) Y ((show RowN rp_Expr gx 3 [.int .i64 v29.Op, .int .i64 v29.N, vs v29.Name, .slice g5 g6 g7, .int .i64 v30.Op, .int .i64 v30.N, vs v30.Name, .slice g0 g1 g2, .int .i64 v9.Op, .int .i64 v9.N, vs v9.Name, .slice R T U] [v29, v30, v9] from ⟨Y, ⟨_, _, Y, (expr_iff.2 ⟨g5, g6, g7, Y, (hf.mono m)⟩), ⟨_, _, Y, (expr_iff.2 ⟨g0, g1, g2, Y, gy⟩), ⟨_, _, Y, (expr_iff.2 ⟨R, T, U, Y, (((((ik.mono g).mono k).mono p).mono s).mono m)⟩), (Y : RowR rp_Expr _ [] [])⟩⟩⟩⟩))
 obtain ⟨v31, gn, z⟩ := Yb z
 refine a0i ent28 Y Y Y Y ga (a2a _ _ _ _ gn ga.sat hsx7) ?_
 rintro _ j5 _ j7 M gb ⟨go, gp, gq, rfl, rfl, gr⟩
 refine a0w (gb.sh ((((((g.trans k).trans p).trans s).trans m).trans L).trans M) [1, 2, 3, 4, 5, 6, 7, 8] (by decide) Y) (a1b 9 Y (by kernel_rfl) (a0s sz24 Y gb Y Y Y Y (i := 0) Y Y Y Y ?_))
 intro j8 gc
 refine a0w (gc.sh ((((((g.trans k).trans p).trans s).trans m).trans L).trans M) [1, 2, 3, 4, 5, 6, 7, 8] (by decide) Y) (a2x (by kernel_rfl) (a0o (fun a ha => ?_)))
 cases z
 exact ⟨_, b16, go, gp, gq, ((((((g.trans k).trans p).trans s).trans m).trans L).trans M), gc.Yp [0, 1, 2, 3, 4, 5, 6, 7, 8] Y Y, gr, ha.cut (l := [3, 5, 8, 9, 11, 12, 14]) Y⟩
 refine a1f ze24 Y Y Y gv ?_
 intro b16 lu gw
 refine a0w (gw.Ys (g.trans k) [2, 3, 4, 5, 6, 7, 8, 9] Y Y) (a1b 3 Y (by kernel_rfl) ?_)
 obtain ⟨ls, p, gm, hsx6⟩ := a1h gw (i := 1) Y j3
 obtain ⟨v29, il, z⟩ := Yb z
 refine a0i ent28 Y Y Y Y gm (a2a _ _ _ _ il gm.sat hsx6) ?_
 rintro _ lt _ kq s gd ⟨g5, g6, g7, rfl, rfl, hf⟩
 refine a0w (gd.Ys (((g.trans k).trans p).trans s) [1, 2, 3, 4, 5, 6, 7, 8] Y Y) (a1b 4 Y (by kernel_rfl) ?_)
 obtain ⟨v30, hj, z⟩ := Yb z
 refine a0i ent30 Y Y Y Y gd (a3m _ _ _ hj gd.sat) ?_
 rintro _ gx _ jj m gg ⟨g0, g1, g2, rfl, rfl, gy⟩
 refine a0w (gg.sh ((((g.trans k).trans p).trans s).trans m) [1, 2, 3, 4, 5, 6, 7, 8] (by decide) Y) (a1b 6 Y (by kernel_rfl) (a1v (e := 24) (cs := [.int .i64 v29.Op, .int .i64 v29.N, vs v29.Name, .slice g5 g6 g7, .int .i64 v30.Op, .int .i64 v30.N, vs v30.Name, .slice g0 g1 g2, .int .i64 v9.Op, .int .i64 v9.N, vs v9.Name, .slice R T U]) (q := 4) Y Y gg Y (fun _ => by kernel_rfl) Y Y ?_))
 intro b17 j6 g9
 refine a0w (g9.sh ((((g.trans k).trans p).trans s).trans m) [2, 3, 4, 5, 6, 7, 8, 9] (by decide) Y) (a1b 7 Y (by kernel_rfl) ?_)
 obtain ⟨j4, L, ga, hsx7⟩ := a1h g9 (i := 0) Y ((show RowN rp_Expr gx 3 [.int .i64 v29.Op, .int .i64 v29.N, vs v29.Name, .slice g5 g6 g7, .int .i64 v30.Op, .int .i64 v30.N, vs v30.Name, .slice g0 g1 g2, .int .i64 v9.Op, .int .i64 v9.N, vs v9.Name, .slice R T U] [v29, v30, v9] from ⟨Y, ⟨_, _, Y, (expr_iff.2 ⟨g5, g6, g7, Y, (hf.mono m)⟩), ⟨_, _, Y, (expr_iff.2 ⟨g0, g1, g2, Y, gy⟩), ⟨_, _, Y, (expr_iff.2 ⟨R, T, U, Y, (((((ik.mono g).mono k).mono p).mono s).mono m)⟩), (Y : RowR rp_Expr _ [] [])⟩⟩⟩⟩))
 obtain ⟨v31, gn, z⟩ := Yb z
 refine a0i ent28 Y Y Y Y ga (a2a _ _ _ _ gn ga.sat hsx7) ?_
 rintro _ j5 _ j7 M gb ⟨go, gp, gq, rfl, rfl, gr⟩
 refine a0w (gb.sh ((((((g.trans k).trans p).trans s).trans m).trans L).trans M) [1, 2, 3, 4, 5, 6, 7, 8] (by decide) Y) (a1b 9 Y (by kernel_rfl) (a0s sz24 Y gb Y Y Y Y (i := 0) Y Y Y Y ?_))
 intro j8 gc
 refine a0w (gc.sh ((((((g.trans k).trans p).trans s).trans m).trans L).trans M) [1, 2, 3, 4, 5, 6, 7, 8] (by decide) Y) (a2x (by kernel_rfl) (a0o (fun a ha => ?_)))
 cases z
 exact ⟨_, b16, go, gp, gq, ((((((g.trans k).trans p).trans s).trans m).trans L).trans M), gc.Yp [0, 1, 2, 3, 4, 5, 6, 7, 8] Y Y, gr, ha.cut (l := [3, 5, 8, 9, 11, 12, 14]) Y⟩
 refine a1f ze24 Y Y Y ie ?_
 intro b16 o2 gv
 refine a0w (gv.Ys g [1, 2, 3, 4, 5, 6, 7, 8] Y Y) (a1b 2 Y (by kernel_rfl) ?_)
 obtain ⟨v28, ji, z⟩ := Yb z
 refine a0i ent29 Y Y Y Y gv (a3h _ _ _ _ ji gv.sat (SlR.nil _ _) kp) ?_
 rintro _ o1 _ lu k gw ⟨o3, o4, o5, xss31, rfl, rfl, j3⟩
 refine a0w (gw.Ys (g.trans k) [2, 3, 4, 5, 6, 7, 8, 9] Y Y) (a1b 3 Y (by kernel_rfl) ?_)
 obtain ⟨ls, p, gm, hsx6⟩ := a1h gw (i := 0) Y j3
 obtain ⟨v29, il, z⟩ := Yb z
 refine a0i ent28 Y Y Y Y gm (a2a _ _ _ _ il gm.sat hsx6) ?_
 rintro _ lt _ kq s gd ⟨g5, g6, g7, rfl, rfl, hf⟩
 refine a0w (gd.Ys (((g.trans k).trans p).trans s) [1, 2, 3, 4, 5, 6, 7, 8] Y Y) (a1b 4 Y (by kernel_rfl) ?_)
 obtain ⟨v30, hj, z⟩ := Yb z
 refine a0i ent30 Y Y Y Y gd (a3m _ _ _ hj gd.sat) ?_
 rintro _ gx _ jj m gg ⟨g0, g1, g2, rfl, rfl, gy⟩
 refine a0w (gg.sh ((((g.trans k).trans p).trans s).trans m) [1, 2, 3, 4, 5, 6, 7, 8] (by decide) Y) (a1b 6 Y (by kernel_rfl) (a1v (e := 24) (cs := [.int .i64 v29.Op, .int .i64 v29.N, vs v29.Name, .slice g5 g6 g7, .int .i64 v30.Op, .int .i64 v30.N, vs v30.Name, .slice g0 g1 g2, .int .i64 v9.Op, .int .i64 v9.N, vs v9.Name, .slice R T U]) (q := 4) Y Y gg Y (fun _ => by kernel_rfl) Y Y ?_))
 intro b17 j6 g9
 refine a0w (g9.sh ((((g.trans k).trans p).trans s).trans m) [2, 3, 4, 5, 6, 7, 8, 9] (by decide) Y) (a1b 7 Y (by kernel_rfl) ?_)
 obtain ⟨j4, L, ga, hsx7⟩ := a1h g9 (i := 0) Y ((show RowN rp_Expr gx 3 [.int .i64 v29.Op, .int .i64 v29.N, vs v29.Name, .slice g5 g6 g7, .int .i64 v30.Op, .int .i64 v30.N, vs v30.Name, .slice g0 g1 g2, .int .i64 v9.Op, .int .i64 v9.N, vs v9.Name, .slice R T U] [v29, v30, v9] from ⟨Y, ⟨_, _, Y, (expr_iff.2 ⟨g5, g6, g7, Y, (hf.mono m)⟩), ⟨_, _, Y, (expr_iff.2 ⟨g0, g1, g2, Y, gy⟩), ⟨_, _, Y, (expr_iff.2 ⟨R, T, U, Y, (((((ik.mono g).mono k).mono p).mono s).mono m)⟩), (Y : RowR rp_Expr _ [] [])⟩⟩⟩⟩))
 obtain ⟨v31, gn, z⟩ := Yb z
 refine a0i ent28 Y Y Y Y ga (a2a _ _ _ _ gn ga.sat hsx7) ?_
 rintro _ j5 _ j7 M gb ⟨go, gp, gq, rfl, rfl, gr⟩
 refine a0w (gb.sh ((((((g.trans k).trans p).trans s).trans m).trans L).trans M) [1, 2, 3, 4, 5, 6, 7, 8] (by decide) Y) (a1b 9 Y (by kernel_rfl) (a0s sz24 Y gb Y Y Y Y (i := 0) Y Y Y Y ?_))
 intro j8 gc
 refine a0w (gc.sh ((((((g.trans k).trans p).trans s).trans m).trans L).trans M) [1, 2, 3, 4, 5, 6, 7, 8] (by decide) Y) (a2x (by kernel_rfl) (a0o (fun a ha => ?_)))
 cases z
 exact ⟨_, b16, go, gp, gq, ((((((g.trans k).trans p).trans s).trans m).trans L).trans M), gc.Yp [0, 1, 2, 3, 4, 5, 6, 7, 8] Y Y, gr, ha.cut (l := [3, 5, 8, 9, 11, 12, 14]) Y⟩
 refine a1f ze24 Y Y Y jh ?_
 intro b16 ql ie
 refine a0w (ie.Ys Yf [1, 2, 3, 4, 5, 6, 7, 8] Y Y) (a1b 1 Y (by kernel_rfl) ?_)
 obtain ⟨v27, lr, z⟩ := Yb z
 refine a0i ent30 Y Y Y Y ie (a3m _ _ _ lr ie.sat) ?_
 rintro _ qk _ o2 g gv ⟨qm, qn, qo, rfl, rfl, kp⟩
 refine a0w (gv.Ys g [1, 2, 3, 4, 5, 6, 7, 8] Y Y) (a1b 2 Y (by kernel_rfl) ?_)
 obtain ⟨v28, ji, z⟩ := Yb z
 refine a0i ent29 Y Y Y Y gv (a3h _ _ _ _ ji gv.sat (SlR.nil _ _) kp) ?_
 rintro _ o1 _ lu k gw ⟨o3, o4, o5, xss31, rfl, rfl, j3⟩
 refine a0w (gw.Ys (g.trans k) [2, 3, 4, 5, 6, 7, 8, 9] Y Y) (a1b 3 Y (by kernel_rfl) ?_)
 obtain ⟨ls, p, gm, hsx6⟩ := a1h gw (i := 0) Y j3
 obtain ⟨v29, il, z⟩ := Yb z
 refine a0i ent28 Y Y Y Y gm (a2a _ _ _ _ il gm.sat hsx6) ?_
 rintro _ lt _ kq s gd ⟨g5, g6, g7, rfl, rfl, hf⟩
 refine a0w (gd.Ys (((g.trans k).trans p).trans s) [1, 2, 3, 4, 5, 6, 7, 8] Y Y) (a1b 4 Y (by kernel_rfl) ?_)
 obtain ⟨v30, hj, z⟩ := Yb z
 refine a0i ent30 Y Y Y Y gd (a3m _ _ _ hj gd.sat) ?_
 rintro _ gx _ jj m gg ⟨g0, g1, g2, rfl, rfl, gy⟩
 refine a0w (gg.sh ((((g.trans k).trans p).trans s).trans m) [1, 2, 3, 4, 5, 6, 7, 8] (by decide) Y) (a1b 6 Y (by kernel_rfl) (a1v (e := 24) (cs := [.int .i64 v29.Op, .int .i64 v29.N, vs v29.Name, .slice g5 g6 g7, .int .i64 v30.Op, .int .i64 v30.N, vs v30.Name, .slice g0 g1 g2, .int .i64 v9.Op, .int .i64 v9.N, vs v9.Name, .slice R T U]) (q := 4) Y Y gg Y (fun _ => by kernel_rfl) Y Y ?_))
 intro b17 j6 g9
 refine a0w (g9.sh ((((g.trans k).trans p).trans s).trans m) [2, 3, 4, 5, 6, 7, 8, 9] (by decide) Y) (a1b 7 Y (by kernel_rfl) ?_)
 obtain ⟨j4, L, ga, hsx7⟩ := a1h g9 (i := 0) Y ((show RowN rp_Expr gx 3 [.int .i64 v29.Op, .int .i64 v29.N, vs v29.Name, .slice g5 g6 g7, .int .i64 v30.Op, .int .i64 v30.N, vs v30.Name, .slice g0 g1 g2, .int .i64 v9.Op, .int .i64 v9.N, vs v9.Name, .slice R T U] [v29, v30, v9] from ⟨Y, ⟨_, _, Y, (expr_iff.2 ⟨g5, g6, g7, Y, (hf.mono m)⟩), ⟨_, _, Y, (expr_iff.2 ⟨g0, g1, g2, Y, gy⟩), ⟨_, _, Y, (expr_iff.2 ⟨R, T, U, Y, (((((ik.mono g).mono k).mono p).mono s).mono m)⟩), (Y : RowR rp_Expr _ [] [])⟩⟩⟩⟩))
 obtain ⟨v31, gn, z⟩ := Yb z
 refine a0i ent28 Y Y Y Y ga (a2a _ _ _ _ gn ga.sat hsx7) ?_
 rintro _ j5 _ j7 M gb ⟨go, gp, gq, rfl, rfl, gr⟩
 refine a0w (gb.sh ((((((g.trans k).trans p).trans s).trans m).trans L).trans M) [1, 2, 3, 4, 5, 6, 7, 8] (by decide) Y) (a1b 9 Y (by kernel_rfl) (a0s sz24 Y gb Y Y Y Y (i := 0) Y Y Y Y ?_))
 intro j8 gc
 refine a0w (gc.sh ((((((g.trans k).trans p).trans s).trans m).trans L).trans M) [1, 2, 3, 4, 5, 6, 7, 8] (by decide) Y) (a2x (by kernel_rfl) (a0o (fun a ha => ?_)))
 cases z
 exact ⟨_, b16, go, gp, gq, ((((((g.trans k).trans p).trans s).trans m).trans L).trans M), gc.Yp [0, 1, 2, 3, 4, 5, 6, 7, 8] Y Y, gr, ha.cut (l := [3, 5, 8, 9, 11, 12, 14]) Y⟩
 clear hm
 refine a2l (SH jb [.box b6 37 [.int .i64 f1, .slice i3 i4 i5, .int .i64 f3, .slice i6 i7 i8], .box b5 24 [.int .i64 2, .int .i64 0, vs [], .slice none 0 0], .box b4 24 [.int .i64 4, .int .i64 0, vs [112, 97, 112, 101, 114], .slice none 0 0], .box b2 37 [.int .i64 v2.1.P.Sign, .slice hx hy hz, .int .i64 v2.1.Q.Sign, .slice i0 i1 i2], .box b1 37 [.int .i64 v1.1.P.Sign, .slice h8 h9 hb, .int .i64 v1.1.Q.Sign, .slice hc hd he]]) 9 Y (by kernel_rfl) p1 ?_
 intro vg jk
 refine d_tk 0 Y (by kernel_rfl) Y Y Y Y (jk.Ys Yf [0, 1, 2, 3, 4] Y Y) (fun _ _ _ _ hq => a0m ag24 sz24 Y Y hq Y (i := 2) Y Y Yn) (d_tk 2 Y (by kernel_rfl) Y Y Y Y (jk.Ys Yf [0, 1, 2, 3, 4] Y Y) (fun _ _ _ _ hq => a0m ag24 sz24 Y Y hq Y (i := 1) Y Y Yn) (b1q 1 7 Y Y (by kernel_rfl) ?_ ?_))
 obtain ⟨v32, lv, H⟩ := Yb H
 refine a0i ent30 Y Y Y Y jk (a3m _ _ _ lv jk.sat) ?_
 rintro _ qp _ qq y ig ⟨qr, qs, qt, rfl, rfl, kr⟩
 refine a0w (ig.Ys y [0, 1, 2, 3, 4] Y Y) (b1q 3 7 Y Y (by kernel_rfl) ?_ ?_)
 obtain ⟨v33, jl, H⟩ := Yb H
 refine a0i ent29 Y Y Y Y ig (a3h _ _ _ _ jl ig.sat kr (SlR.nil _ _)) ?_
 rintro _ o6 _ o7 G gz ⟨o8, o9, oa, xss36, rfl, rfl, j9⟩
 refine a0w (gz.Ys (y.trans G) [1, 2, 3, 4, 5] Y Y) (b1q 4 7 Y Y (by kernel_rfl) ?_ ?_)
 obtain ⟨lw, I, h0, hsx8⟩ := a1h gz (i := 0) Y j9
 obtain ⟨v34, im, H⟩ := Yb H
 refine a0i ent28 Y Y Y Y h0 (a2a _ _ _ _ im h0.sat hsx8) ?_
 rintro _ lx _ ly J gs ⟨lz, m0, m1, rfl, rfl, ih⟩
 refine a0w (gs.Ys (((y.trans G).trans I).trans J) [0, 1, 2, 3, 4] Y Y) (b1q 5 7 Y Y (by kernel_rfl) ?_ ?_)
 obtain ⟨v35, hk, H⟩ := Yb H
 refine a0i ent29 Y Y Y Y gs (a3h _ _ _ _ hk gs.sat (SlR.nil _ _) ih) ?_
 rintro _ ks _ kt K ge ⟨ku, kv, kw, xss38, rfl, rfl, hg⟩
 refine a0w (ge.sh ((((y.trans G).trans I).trans J).trans K) [1, 2, 3, 4, 5] (by decide) Y) (b1q 6 7 Y Y (by kernel_rfl) ?_ ?_)
 obtain ⟨jm, g3, gh, hsx9⟩ := a1h ge (i := 0) Y hg
 obtain ⟨v36, h1, H⟩ := Yb H
 refine a0i ent28 Y Y Y Y gh (a2a _ _ _ _ h1 gh.sat hsx9) ?_
 rintro _ jn _ jo g4 gi ⟨h2, h3, h4, rfl, rfl, h5⟩
 refine a0w (gi.sh ((((((y.trans G).trans I).trans J).trans K).trans g3).trans g4) [0, 1, 2, 3, 4] (by decide) Y) (a1b 7 Y (by kernel_rfl) (a1f ze24 Y Y Y gi ?_))
 intro b18 jp gj
 refine a0w (gj.sh ((((((y.trans G).trans I).trans J).trans K).trans g3).trans g4) [1, 2, 3, 4, 5] (by decide) Y) (a1b 8 Y (by kernel_rfl) (a0s sz24 Y gj Y Y Y Y (i := 0) Y Y Y Y ?_))
 intro jq gk
 refine a0w (gk.sh ((((((y.trans G).trans I).trans J).trans K).trans g3).trans g4) [1, 2, 3, 4, 5] (by decide) Y) (a2x (by kernel_rfl) (a0o (fun a ha => ?_)))
 cases H
 exact ⟨_, b18, h2, h3, h4, ((((((y.trans G).trans I).trans J).trans K).trans g3).trans g4), gk.Yp [0, 1, 2, 3, 4, 5] Y Y, h5, ha.cut (l := [3, 5, 7, 8, 9, 10]) Y⟩
 refine a1f ze24 Y Y Y ge ?_
 intro b18 jo gh
 refine a0w (gh.sh ((((y.trans G).trans I).trans J).trans K) [2, 3, 4, 5, 6] (by decide) Y) (a1b 6 Y (by kernel_rfl) ?_)
 obtain ⟨jm, g3, gi, hsx9⟩ := a1h gh (i := 1) Y hg
 obtain ⟨v36, h1, H⟩ := Yb H
 refine a0i ent28 Y Y Y Y gi (a2a _ _ _ _ h1 gi.sat hsx9) ?_
 rintro _ jn _ jp g4 gj ⟨h2, h3, h4, rfl, rfl, h5⟩
 refine a0w (gj.sh ((((((y.trans G).trans I).trans J).trans K).trans g3).trans g4) [1, 2, 3, 4, 5] (by decide) Y) (a1b 8 Y (by kernel_rfl) (a0s sz24 Y gj Y Y Y Y (i := 0) Y Y Y Y ?_))
 intro jq gk
 refine a0w (gk.sh ((((((y.trans G).trans I).trans J).trans K).trans g3).trans g4) [1, 2, 3, 4, 5] (by decide) Y) (a2x (by kernel_rfl) (a0o (fun a ha => ?_)))
 cases H
 exact ⟨_, b18, h2, h3, h4, ((((((y.trans G).trans I).trans J).trans K).trans g3).trans g4), gk.Yp [0, 1, 2, 3, 4, 5] Y Y, h5, ha.cut (l := [3, 5, 7, 8, 9, 10]) Y⟩
 refine a1f ze24 Y Y Y gs ?_
 intro b18 kt ge
 refine a0w (ge.Ys (((y.trans G).trans I).trans J) [1, 2, 3, 4, 5] Y Y) (a1b 5 Y (by kernel_rfl) ?_)
 obtain ⟨v35, hk, H⟩ := Yb H
 refine a0i ent29 Y Y Y Y ge (a3h _ _ _ _ hk ge.sat (SlR.nil _ _) ih) ?_
 rintro _ ks _ jo K gh ⟨ku, kv, kw, xss38, rfl, rfl, hg⟩
 refine a0w (gh.sh ((((y.trans G).trans I).trans J).trans K) [2, 3, 4, 5, 6] (by decide) Y) (a1b 6 Y (by kernel_rfl) ?_)
 obtain ⟨jm, g3, gi, hsx9⟩ := a1h gh (i := 0) Y hg
 obtain ⟨v36, h1, H⟩ := Yb H
 refine a0i ent28 Y Y Y Y gi (a2a _ _ _ _ h1 gi.sat hsx9) ?_
 rintro _ jn _ jp g4 gj ⟨h2, h3, h4, rfl, rfl, h5⟩
 refine a0w (gj.sh ((((((y.trans G).trans I).trans J).trans K).trans g3).trans g4) [1, 2, 3, 4, 5] (by decide) Y) (a1b 8 Y (by kernel_rfl) (a0s sz24 Y gj Y Y Y Y (i := 0) Y Y Y Y ?_))
 intro jq gk
 refine a0w (gk.sh ((((((y.trans G).trans I).trans J).trans K).trans g3).trans g4) [1, 2, 3, 4, 5] (by decide) Y) (a2x (by kernel_rfl) (a0o (fun a ha => ?_)))
 cases H
 exact ⟨_, b18, h2, h3, h4, ((((((y.trans G).trans I).trans J).trans K).trans g3).trans g4), gk.Yp [0, 1, 2, 3, 4, 5] Y Y, h5, ha.cut (l := [3, 5, 7, 8, 9, 10]) Y⟩
 refine a1f ze24 Y Y Y gz ?_
 intro b18 ly h0
 refine a0w (h0.Ys (y.trans G) [2, 3, 4, 5, 6] Y Y) (a1b 4 Y (by kernel_rfl) ?_)
 obtain ⟨lw, I, gs, hsx8⟩ := a1h h0 (i := 1) Y j9
 obtain ⟨v34, im, H⟩ := Yb H
 refine a0i ent28 Y Y Y Y gs (a2a _ _ _ _ im gs.sat hsx8) ?_
 rintro _ lx _ kt J ge ⟨lz, m0, m1, rfl, rfl, ih⟩
 refine a0w (ge.Ys (((y.trans G).trans I).trans J) [1, 2, 3, 4, 5] Y Y) (a1b 5 Y (by kernel_rfl) ?_)
 obtain ⟨v35, hk, H⟩ := Yb H
 refine a0i ent29 Y Y Y Y ge (a3h _ _ _ _ hk ge.sat (SlR.nil _ _) ih) ?_
 rintro _ ks _ jo K gh ⟨ku, kv, kw, xss38, rfl, rfl, hg⟩
 refine a0w (gh.sh ((((y.trans G).trans I).trans J).trans K) [2, 3, 4, 5, 6] (by decide) Y) (a1b 6 Y (by kernel_rfl) ?_)
 obtain ⟨jm, g3, gi, hsx9⟩ := a1h gh (i := 0) Y hg
 obtain ⟨v36, h1, H⟩ := Yb H
 refine a0i ent28 Y Y Y Y gi (a2a _ _ _ _ h1 gi.sat hsx9) ?_
 rintro _ jn _ jp g4 gj ⟨h2, h3, h4, rfl, rfl, h5⟩
 refine a0w (gj.sh ((((((y.trans G).trans I).trans J).trans K).trans g3).trans g4) [1, 2, 3, 4, 5] (by decide) Y) (a1b 8 Y (by kernel_rfl) (a0s sz24 Y gj Y Y Y Y (i := 0) Y Y Y Y ?_))
 intro jq gk
 refine a0w (gk.sh ((((((y.trans G).trans I).trans J).trans K).trans g3).trans g4) [1, 2, 3, 4, 5] (by decide) Y) (a2x (by kernel_rfl) (a0o (fun a ha => ?_)))
 cases H
 exact ⟨_, b18, h2, h3, h4, ((((((y.trans G).trans I).trans J).trans K).trans g3).trans g4), gk.Yp [0, 1, 2, 3, 4, 5] Y Y, h5, ha.cut (l := [3, 5, 7, 8, 9, 10]) Y⟩
 refine a1f ze24 Y Y Y ig ?_
 intro b18 o7 gz
 refine a0w (gz.Ys y [1, 2, 3, 4, 5] Y Y) (a1b 3 Y (by kernel_rfl) ?_)
 obtain ⟨v33, jl, H⟩ := Yb H
 refine a0i ent29 Y Y Y Y gz (a3h _ _ _ _ jl gz.sat kr (SlR.nil _ _)) ?_
 rintro _ o6 _ ly G h0 ⟨o8, o9, oa, xss36, rfl, rfl, j9⟩
 refine a0w (h0.Ys (y.trans G) [2, 3, 4, 5, 6] Y Y) (a1b 4 Y (by kernel_rfl) ?_)
 obtain ⟨lw, I, gs, hsx8⟩ := a1h h0 (i := 0) Y j9
 obtain ⟨v34, im, H⟩ := Yb H
 refine a0i ent28 Y Y Y Y gs (a2a _ _ _ _ im gs.sat hsx8) ?_
 rintro _ lx _ kt J ge ⟨lz, m0, m1, rfl, rfl, ih⟩
 refine a0w (ge.Ys (((y.trans G).trans I).trans J) [1, 2, 3, 4, 5] Y Y) (a1b 5 Y (by kernel_rfl) ?_)
 obtain ⟨v35, hk, H⟩ := Yb H
 refine a0i ent29 Y Y Y Y ge (a3h _ _ _ _ hk ge.sat (SlR.nil _ _) ih) ?_
 rintro _ ks _ jo K gh ⟨ku, kv, kw, xss38, rfl, rfl, hg⟩
 refine a0w (gh.sh ((((y.trans G).trans I).trans J).trans K) [2, 3, 4, 5, 6] (by decide) Y) (a1b 6 Y (by kernel_rfl) ?_)
 obtain ⟨jm, g3, gi, hsx9⟩ := a1h gh (i := 0) Y hg
 obtain ⟨v36, h1, H⟩ := Yb H
 refine a0i ent28 Y Y Y Y gi (a2a _ _ _ _ h1 gi.sat hsx9) ?_
 rintro _ jn _ jp g4 gj ⟨h2, h3, h4, rfl, rfl, h5⟩
 refine a0w (gj.sh ((((((y.trans G).trans I).trans J).trans K).trans g3).trans g4) [1, 2, 3, 4, 5] (by decide) Y) (a1b 8 Y (by kernel_rfl) (a0s sz24 Y gj Y Y Y Y (i := 0) Y Y Y Y ?_))
 intro jq gk
 refine a0w (gk.sh ((((((y.trans G).trans I).trans J).trans K).trans g3).trans g4) [1, 2, 3, 4, 5] (by decide) Y) (a2x (by kernel_rfl) (a0o (fun a ha => ?_)))
 cases H
 exact ⟨_, b18, h2, h3, h4, ((((((y.trans G).trans I).trans J).trans K).trans g3).trans g4), gk.Yp [0, 1, 2, 3, 4, 5] Y Y, h5, ha.cut (l := [3, 5, 7, 8, 9, 10]) Y⟩
 refine a1f ze24 Y Y Y jk ?_
 intro b18 qq ig
 refine a0w (ig.Ys Yf [1, 2, 3, 4, 5] Y Y) (a1b 1 Y (by kernel_rfl) ?_)
 obtain ⟨v32, lv, H⟩ := Yb H
 refine a0i ent30 Y Y Y Y ig (a3m _ _ _ lv ig.sat) ?_
 rintro _ qp _ o7 y gz ⟨qr, qs, qt, rfl, rfl, kr⟩
 refine a0w (gz.Ys y [1, 2, 3, 4, 5] Y Y) (a1b 3 Y (by kernel_rfl) ?_)
 obtain ⟨v33, jl, H⟩ := Yb H
 refine a0i ent29 Y Y Y Y gz (a3h _ _ _ _ jl gz.sat kr (SlR.nil _ _)) ?_
 rintro _ o6 _ ly G h0 ⟨o8, o9, oa, xss36, rfl, rfl, j9⟩
 refine a0w (h0.Ys (y.trans G) [2, 3, 4, 5, 6] Y Y) (a1b 4 Y (by kernel_rfl) ?_)
 obtain ⟨lw, I, gs, hsx8⟩ := a1h h0 (i := 0) Y j9
 obtain ⟨v34, im, H⟩ := Yb H
 refine a0i ent28 Y Y Y Y gs (a2a _ _ _ _ im gs.sat hsx8) ?_
 rintro _ lx _ kt J ge ⟨lz, m0, m1, rfl, rfl, ih⟩
 refine a0w (ge.Ys (((y.trans G).trans I).trans J) [1, 2, 3, 4, 5] Y Y) (a1b 5 Y (by kernel_rfl) ?_)
 obtain ⟨v35, hk, H⟩ := Yb H
 refine a0i ent29 Y Y Y Y ge (a3h _ _ _ _ hk ge.sat (SlR.nil _ _) ih) ?_
 rintro _ ks _ jo K gh ⟨ku, kv, kw, xss38, rfl, rfl, hg⟩
 refine a0w (gh.sh ((((y.trans G).trans I).trans J).trans K) [2, 3, 4, 5, 6] (by decide) Y) (a1b 6 Y (by kernel_rfl) ?_)
 obtain ⟨jm, g3, gi, hsx9⟩ := a1h gh (i := 0) Y hg
 obtain ⟨v36, h1, H⟩ := Yb H
 refine a0i ent28 Y Y Y Y gi (a2a _ _ _ _ h1 gi.sat hsx9) ?_
 rintro _ jn _ jp g4 gj ⟨h2, h3, h4, rfl, rfl, h5⟩
 refine a0w (gj.sh ((((((y.trans G).trans I).trans J).trans K).trans g3).trans g4) [1, 2, 3, 4, 5] (by decide) Y) (a1b 8 Y (by kernel_rfl) (a0s sz24 Y gj Y Y Y Y (i := 0) Y Y Y Y ?_))
 intro jq gk
 refine a0w (gk.sh ((((((y.trans G).trans I).trans J).trans K).trans g3).trans g4) [1, 2, 3, 4, 5] (by decide) Y) (a2x (by kernel_rfl) (a0o (fun a ha => ?_)))
 cases H
 exact ⟨_, b18, h2, h3, h4, ((((((y.trans G).trans I).trans J).trans K).trans g3).trans g4), gk.Yp [0, 1, 2, 3, 4, 5] Y Y, h5, ha.cut (l := [3, 5, 7, 8, 9, 10]) Y⟩
 clear hm
 refine a2l (SH ok [.box b5 24 [.int .i64 2, .int .i64 0, vs [], .slice none 0 0], .box b4 24 [.int .i64 4, .int .i64 0, vs [112, 97, 112, 101, 114], .slice none 0 0], .box b2 37 [.int .i64 v2.1.P.Sign, .slice hx hy hz, .int .i64 v2.1.Q.Sign, .slice i0 i1 i2], .box b1 37 [.int .i64 v1.1.P.Sign, .slice h8 h9 hb, .int .i64 v1.1.Q.Sign, .slice hc hd he]]) 12 Y (by kernel_rfl) p0 ?_
 intro vh jr
 refine d_tk 0 Y (by kernel_rfl) Y Y Y Y (jr.Ys Yf [0, 1, 2, 3] Y Y) (fun _ _ _ _ hq => a0m ag24 sz24 Y Y hq Y (i := 1) Y Y Yn) (d_tk 4 Y (by kernel_rfl) Y Y Y Y (jr.Ys Yf [0, 1, 2, 3] Y Y) (fun _ _ _ _ _ => a0d Y Y Y Yn) (b1q 1 9 Y Y (by kernel_rfl) ?_ ?_))
 obtain ⟨v37, m2, Z⟩ := Yb Z
 refine a0i ent30 Y Y Y Y jr (a3m _ _ _ m2 jr.sat) ?_
 rintro _ qu _ qv j ii ⟨qw, qx, qy, rfl, rfl, kx⟩
 refine a0w (ii.Ys j [0, 1, 2, 3] Y Y) (b1q 2 9 Y Y (by kernel_rfl) ?_ ?_)
 obtain ⟨v38, js, Z⟩ := Yb Z
 refine a0i ent29 Y Y Y Y ii (a3h _ _ _ _ js ii.sat (SlR.nil _ _) kx) ?_
 rintro _ ob _ oc o h6 ⟨od, oe, of, xss41, rfl, rfl, ja⟩
 refine a0w (h6.Ys (j.trans o) [1, 2, 3, 4] Y Y) (b1q 3 9 Y Y (by kernel_rfl) ?_ ?_)
 obtain ⟨m3, t, h7, hsx10⟩ := a1h h6 (i := 0) Y ja
 obtain ⟨v39, io, Z⟩ := Yb Z
 refine a0i ent28 Y Y Y Y h7 (a2a _ _ _ _ io h7.sat hsx10) ?_
 rintro _ m4 _ m5 u gt ⟨m6, m7, m8, rfl, rfl, ij⟩
 refine a0w (gt.Ys (((j.trans o).trans t).trans u) [0, 1, 2, 3] Y Y) (b1q 5 9 Y Y (by kernel_rfl) ?_ ?_)
 have iu := ((j.trans o).trans t).trans u
 obtain ⟨v40, hl, Z⟩ := Yb Z
 refine a0i ent27 Y Y Y Y gt (a5z _ _ _ _ hl gt.sat ij (hsx1.mono iu)) ?_
 rintro _ ky _ kz x g8 ⟨hn, ho, hp, hr, ht, hu, rfl, rfl, hv, hw⟩
 refine a0w (g8.sh ((((j.trans o).trans t).trans u).trans x) [0, 1, 2, 3] (by decide) Y) (d_tk 6 Y (by kernel_rfl) Y Y Y Y (g8.sh ((((j.trans o).trans t).trans u).trans x) [0, 1, 2, 3] (by decide) Y) (fun _ _ _ _ _ => a0d Y Y Y Yn) (d_tk 7 Y (by kernel_rfl) Y Y Y Y (g8.sh ((((j.trans o).trans t).trans u).trans x) [0, 1, 2, 3] (by decide) Y) (fun _ _ _ _ _ => a0l Y Y Y Y Yn) (d_tk 8 Y (by kernel_rfl) Y Y Y Y (g8.sh ((((j.trans o).trans t).trans u).trans x) [0, 1, 2, 3] (by decide) Y) (fun _ _ _ _ _ => a0l Y Y Y Y Yn) (a1b 9 Y (by kernel_rfl) (a1f ze37 Y Y Y g8 ?_)))))
 intro b19 l0 V
 refine a0w (V.sh ((((j.trans o).trans t).trans u).trans x) [1, 2, 3, 4] (by decide) Y) (a1b 10 Y (by kernel_rfl) (a0s sz37 Y V Y Y Y Y (i := 0) Y Y Y Y ?_))
 intro l1 gf
 refine a0w (gf.sh ((((j.trans o).trans t).trans u).trans x) [1, 2, 3, 4] (by decide) Y) (d_tk 11 Y (by kernel_rfl) Y Y Y Y (gf.sh ((((j.trans o).trans t).trans u).trans x) [1, 2, 3, 4] (by decide) Y) (fun _ _ _ _ _ => a0b Y Y Y Yn) (a2x (by kernel_rfl) (a0o (fun a ha => ?_))))
 cases Z
 exact ⟨_, b19, hn, ho, hp, hr, ht, hu, ((((j.trans o).trans t).trans u).trans x), gf.Yp [0, 1, 2, 3, 4] Y Y, hv, hw, ha.cut (l := [3, 5, 6, 7, 8, 9]) Y⟩
 refine a1f ze37 Y Y Y gt ?_
 intro b19 kz g8
 refine a0w (g8.Ys (((j.trans o).trans t).trans u) [1, 2, 3, 4] Y Y) (a1b 5 Y (by kernel_rfl) ?_)
 have iu := ((j.trans o).trans t).trans u
 obtain ⟨v40, hl, Z⟩ := Yb Z
 refine a0i ent27 Y Y Y Y g8 (a5z _ _ _ _ hl g8.sat ij (hsx1.mono iu)) ?_
 rintro _ ky _ l0 x V ⟨hn, ho, hp, hr, ht, hu, rfl, rfl, hv, hw⟩
 refine a0w (V.sh ((((j.trans o).trans t).trans u).trans x) [1, 2, 3, 4] (by decide) Y) (d_tk 6 Y (by kernel_rfl) Y Y Y Y (V.sh ((((j.trans o).trans t).trans u).trans x) [1, 2, 3, 4] (by decide) Y) (fun _ _ _ _ _ => a0d Y Y Y Yn) (d_tk 7 Y (by kernel_rfl) Y Y Y Y (V.sh ((((j.trans o).trans t).trans u).trans x) [1, 2, 3, 4] (by decide) Y) (fun _ _ _ _ _ => a0l Y Y Y Y Yn) (d_tk 8 Y (by kernel_rfl) Y Y Y Y (V.sh ((((j.trans o).trans t).trans u).trans x) [1, 2, 3, 4] (by decide) Y) (fun _ _ _ _ _ => a0l Y Y Y Y Yn) (a1b 10 Y (by kernel_rfl) (a0s sz37 Y V Y Y Y Y (i := 0) Y Y Y Y ?_)))))
 intro l1 gf
 refine a0w (gf.sh ((((j.trans o).trans t).trans u).trans x) [1, 2, 3, 4] (by decide) Y) (d_tk 11 Y (by kernel_rfl) Y Y Y Y (gf.sh ((((j.trans o).trans t).trans u).trans x) [1, 2, 3, 4] (by decide) Y) (fun _ _ _ _ _ => a0b Y Y Y Yn) (a2x (by kernel_rfl) (a0o (fun a ha => ?_))))
 cases Z
 exact ⟨_, b19, hn, ho, hp, hr, ht, hu, ((((j.trans o).trans t).trans u).trans x), gf.Yp [0, 1, 2, 3, 4] Y Y, hv, hw, ha.cut (l := [3, 5, 6, 7, 8, 9]) Y⟩
 refine a1f ze37 Y Y Y h6 ?_
 intro b19 m5 h7
 refine a0w (h7.Ys (j.trans o) [2, 3, 4, 5] Y Y) (a1b 3 Y (by kernel_rfl) ?_)
 obtain ⟨m3, t, gt, hsx10⟩ := a1h h7 (i := 1) Y ja
 obtain ⟨v39, io, Z⟩ := Yb Z
 refine a0i ent28 Y Y Y Y gt (a2a _ _ _ _ io gt.sat hsx10) ?_
 rintro _ m4 _ kz u g8 ⟨m6, m7, m8, rfl, rfl, ij⟩
 refine a0w (g8.Ys (((j.trans o).trans t).trans u) [1, 2, 3, 4] Y Y) (a1b 5 Y (by kernel_rfl) ?_)
 have iu := ((j.trans o).trans t).trans u
 obtain ⟨v40, hl, Z⟩ := Yb Z
 refine a0i ent27 Y Y Y Y g8 (a5z _ _ _ _ hl g8.sat ij (hsx1.mono iu)) ?_
 rintro _ ky _ l0 x V ⟨hn, ho, hp, hr, ht, hu, rfl, rfl, hv, hw⟩
 refine a0w (V.sh ((((j.trans o).trans t).trans u).trans x) [1, 2, 3, 4] (by decide) Y) (d_tk 6 Y (by kernel_rfl) Y Y Y Y (V.sh ((((j.trans o).trans t).trans u).trans x) [1, 2, 3, 4] (by decide) Y) (fun _ _ _ _ _ => a0d Y Y Y Yn) (d_tk 7 Y (by kernel_rfl) Y Y Y Y (V.sh ((((j.trans o).trans t).trans u).trans x) [1, 2, 3, 4] (by decide) Y) (fun _ _ _ _ _ => a0l Y Y Y Y Yn) (d_tk 8 Y (by kernel_rfl) Y Y Y Y (V.sh ((((j.trans o).trans t).trans u).trans x) [1, 2, 3, 4] (by decide) Y) (fun _ _ _ _ _ => a0l Y Y Y Y Yn) (a1b 10 Y (by kernel_rfl) (a0s sz37 Y V Y Y Y Y (i := 0) Y Y Y Y ?_)))))
 intro l1 gf
 refine a0w (gf.sh ((((j.trans o).trans t).trans u).trans x) [1, 2, 3, 4] (by decide) Y) (d_tk 11 Y (by kernel_rfl) Y Y Y Y (gf.sh ((((j.trans o).trans t).trans u).trans x) [1, 2, 3, 4] (by decide) Y) (fun _ _ _ _ _ => a0b Y Y Y Yn) (a2x (by kernel_rfl) (a0o (fun a ha => ?_))))
 cases Z
 exact ⟨_, b19, hn, ho, hp, hr, ht, hu, ((((j.trans o).trans t).trans u).trans x), gf.Yp [0, 1, 2, 3, 4] Y Y, hv, hw, ha.cut (l := [3, 5, 6, 7, 8, 9]) Y⟩
 refine a1f ze37 Y Y Y ii ?_
 intro b19 oc h6
 refine a0w (h6.Ys j [1, 2, 3, 4] Y Y) (a1b 2 Y (by kernel_rfl) ?_)
 obtain ⟨v38, js, Z⟩ := Yb Z
 refine a0i ent29 Y Y Y Y h6 (a3h _ _ _ _ js h6.sat (SlR.nil _ _) kx) ?_
 rintro _ ob _ m5 o h7 ⟨od, oe, of, xss41, rfl, rfl, ja⟩
 refine a0w (h7.Ys (j.trans o) [2, 3, 4, 5] Y Y) (a1b 3 Y (by kernel_rfl) ?_)
 obtain ⟨m3, t, gt, hsx10⟩ := a1h h7 (i := 0) Y ja
 obtain ⟨v39, io, Z⟩ := Yb Z
 refine a0i ent28 Y Y Y Y gt (a2a _ _ _ _ io gt.sat hsx10) ?_
 rintro _ m4 _ kz u g8 ⟨m6, m7, m8, rfl, rfl, ij⟩
 refine a0w (g8.Ys (((j.trans o).trans t).trans u) [1, 2, 3, 4] Y Y) (a1b 5 Y (by kernel_rfl) ?_)
 have iu := ((j.trans o).trans t).trans u
 obtain ⟨v40, hl, Z⟩ := Yb Z
 refine a0i ent27 Y Y Y Y g8 (a5z _ _ _ _ hl g8.sat ij (hsx1.mono iu)) ?_
 rintro _ ky _ l0 x V ⟨hn, ho, hp, hr, ht, hu, rfl, rfl, hv, hw⟩
 refine a0w (V.sh ((((j.trans o).trans t).trans u).trans x) [1, 2, 3, 4] (by decide) Y) (d_tk 6 Y (by kernel_rfl) Y Y Y Y (V.sh ((((j.trans o).trans t).trans u).trans x) [1, 2, 3, 4] (by decide) Y) (fun _ _ _ _ _ => a0d Y Y Y Yn) (d_tk 7 Y (by kernel_rfl) Y Y Y Y (V.sh ((((j.trans o).trans t).trans u).trans x) [1, 2, 3, 4] (by decide) Y) (fun _ _ _ _ _ => a0l Y Y Y Y Yn) (d_tk 8 Y (by kernel_rfl) Y Y Y Y (V.sh ((((j.trans o).trans t).trans u).trans x) [1, 2, 3, 4] (by decide) Y) (fun _ _ _ _ _ => a0l Y Y Y Y Yn) (a1b 10 Y (by kernel_rfl) (a0s sz37 Y V Y Y Y Y (i := 0) Y Y Y Y ?_)))))
 intro l1 gf
 refine a0w (gf.sh ((((j.trans o).trans t).trans u).trans x) [1, 2, 3, 4] (by decide) Y) (d_tk 11 Y (by kernel_rfl) Y Y Y Y (gf.sh ((((j.trans o).trans t).trans u).trans x) [1, 2, 3, 4] (by decide) Y) (fun _ _ _ _ _ => a0b Y Y Y Yn) (a2x (by kernel_rfl) (a0o (fun a ha => ?_))))
 cases Z
 exact ⟨_, b19, hn, ho, hp, hr, ht, hu, ((((j.trans o).trans t).trans u).trans x), gf.Yp [0, 1, 2, 3, 4] Y Y, hv, hw, ha.cut (l := [3, 5, 6, 7, 8, 9]) Y⟩
 refine a1f ze37 Y Y Y jr ?_
 intro b19 qv ii
 refine a0w (ii.Ys Yf [1, 2, 3, 4] Y Y) (a1b 1 Y (by kernel_rfl) ?_)
 obtain ⟨v37, m2, Z⟩ := Yb Z
 refine a0i ent30 Y Y Y Y ii (a3m _ _ _ m2 ii.sat) ?_
 rintro _ qu _ oc j h6 ⟨qw, qx, qy, rfl, rfl, kx⟩
 refine a0w (h6.Ys j [1, 2, 3, 4] Y Y) (a1b 2 Y (by kernel_rfl) ?_)
 obtain ⟨v38, js, Z⟩ := Yb Z
 refine a0i ent29 Y Y Y Y h6 (a3h _ _ _ _ js h6.sat (SlR.nil _ _) kx) ?_
 rintro _ ob _ m5 o h7 ⟨od, oe, of, xss41, rfl, rfl, ja⟩
 refine a0w (h7.Ys (j.trans o) [2, 3, 4, 5] Y Y) (a1b 3 Y (by kernel_rfl) ?_)
 obtain ⟨m3, t, gt, hsx10⟩ := a1h h7 (i := 0) Y ja
 obtain ⟨v39, io, Z⟩ := Yb Z
 refine a0i ent28 Y Y Y Y gt (a2a _ _ _ _ io gt.sat hsx10) ?_
 rintro _ m4 _ kz u g8 ⟨m6, m7, m8, rfl, rfl, ij⟩
 refine a0w (g8.Ys (((j.trans o).trans t).trans u) [1, 2, 3, 4] Y Y) (a1b 5 Y (by kernel_rfl) ?_)
 have iu := ((j.trans o).trans t).trans u
 obtain ⟨v40, hl, Z⟩ := Yb Z
 refine a0i ent27 Y Y Y Y g8 (a5z _ _ _ _ hl g8.sat ij (hsx1.mono iu)) ?_
 rintro _ ky _ l0 x V ⟨hn, ho, hp, hr, ht, hu, rfl, rfl, hv, hw⟩
 refine a0w (V.sh ((((j.trans o).trans t).trans u).trans x) [1, 2, 3, 4] (by decide) Y) (d_tk 6 Y (by kernel_rfl) Y Y Y Y (V.sh ((((j.trans o).trans t).trans u).trans x) [1, 2, 3, 4] (by decide) Y) (fun _ _ _ _ _ => a0d Y Y Y Yn) (d_tk 7 Y (by kernel_rfl) Y Y Y Y (V.sh ((((j.trans o).trans t).trans u).trans x) [1, 2, 3, 4] (by decide) Y) (fun _ _ _ _ _ => a0l Y Y Y Y Yn) (d_tk 8 Y (by kernel_rfl) Y Y Y Y (V.sh ((((j.trans o).trans t).trans u).trans x) [1, 2, 3, 4] (by decide) Y) (fun _ _ _ _ _ => a0l Y Y Y Y Yn) (a1b 10 Y (by kernel_rfl) (a0s sz37 Y V Y Y Y Y (i := 0) Y Y Y Y ?_)))))
 intro l1 gf
 refine a0w (gf.sh ((((j.trans o).trans t).trans u).trans x) [1, 2, 3, 4] (by decide) Y) (d_tk 11 Y (by kernel_rfl) Y Y Y Y (gf.sh ((((j.trans o).trans t).trans u).trans x) [1, 2, 3, 4] (by decide) Y) (fun _ _ _ _ _ => a0b Y Y Y Yn) (a2x (by kernel_rfl) (a0o (fun a ha => ?_))))
 cases Z
 exact ⟨_, b19, hn, ho, hp, hr, ht, hu, ((((j.trans o).trans t).trans u).trans x), gf.Yp [0, 1, 2, 3, 4] Y Y, hv, hw, ha.cut (l := [3, 5, 6, 7, 8, 9]) Y⟩
end Go.Proofs.YtknpjecpcmajiaaGreat.M

namespace Go.Proofs.YtknpjecpcmajiaaGreat.M
open Go Go.RowKit Rt
def a8a (_n : Nat) (c1 : Int) : Option Bool :=
 (bif decide (97 ≤ c1) then
  some (decide (c1 ≤ 122))
 else
  some false).bind fun v1 =>
 (bif v1 then
  some true
 else
  (bif decide (65 ≤ c1) then
   some (decide (c1 ≤ 90))
  else
   some false).bind fun v3 =>
  some v3).bind fun v2 =>
 some v2
theorem b5b (n : Nat) (c1 : Int) (r : Bool) (hm : a8a n c1 = some r) {w : World}  :
  Calls Tryz.prog 136 #[.int .u8 c1] w fun e w' => e = .returned (.bool r) ∧ w' = w := by
 unfold a8a at hm
 refine a1a 17 Tryz.func136 Y Y Y (a0h (a0a (a0b Y Y Y (a0g (a0c (a0h (a0a (a0d Y Y Y (a0u Y Y Y Y Y (a0d Y Y Y ?_))))))))))
 obtain ⟨v1, h, hm⟩ := Yb hm
 refine a1z 3 (fun a w' => w = w' ∧ Has 17 a [(0, .int .u8 c1), (8, .bool v1)]) ?_ ?_
 rintro a s ⟨rfl, o⟩
 refine a0z o (a0d Y Y Y ?_)
 obtain ⟨v2, g, hm⟩ := Yb hm
 refine a1z 7 (fun a w' => w = w' ∧ Has 17 a [(16, .bool v2)]) ?_ ?_
 rintro a t ⟨rfl, p⟩
 refine a0z p (a0b Y Y Y (a0g (a0c (a1d (a1j Y Y ?_)))))
 obtain rfl := Yo hm
 exact ⟨Y, Y⟩
 clear hm
 rcases a0f g with ⟨j, g⟩ | ⟨j, g⟩
 refine a1g 9 Y j (a0t Y (by decide) Y (a0t Y (by decide) Y (a0t Y (by decide) Y (a0t Y (by decide) Y (a0t Y (by decide) Y (a0t Y (by decide) Y (a0n Y Y Y Y (a0g (a0o (fun a ha => ?_))))))))))
 cases g
 exact ⟨Y, ha.cut (l := [16]) Y⟩
 refine a1g 9 Y j (a0d Y Y Y (a0u Y Y Y Y Y (a0d Y Y Y ?_)))
 obtain ⟨v3, i, g⟩ := Yb g
 refine a1z 3 (fun a w' => w = w' ∧ Has 17 a [(9, .bool false), (15, .bool v3)]) ?_ ?_
 rintro a u ⟨rfl, q⟩
 refine a0z q (a0k Y Y Y Y (a0g (a0o (fun a ha => ?_))))
 cases g
 exact ⟨Y, ha.cut (l := [16]) Y⟩
 clear g
 rcases a0f i with ⟨k, i⟩ | ⟨k, i⟩
 refine a1g 12 Y k (a0d Y Y Y (a0u Y Y Y Y Y (a0n Y Y Y Y (a0g (a0o (fun a ha => ?_))))))
 cases i
 exact ⟨Y, ha.cut (l := [9, 15]) Y⟩
 refine a1g 12 Y k (a0t Y (by decide) Y (a0t Y (by decide) Y (a0k Y Y Y Y (a0g (a0o (fun a ha => ?_))))))
 cases i
 exact ⟨Y, ha.cut (l := [9, 15]) Y⟩
 clear hm
 rcases a0f h with ⟨m, h⟩ | ⟨m, h⟩
 refine a1g 5 Y m (a0d Y Y Y (a0u Y Y Y Y Y (a0n Y Y Y Y (a0g (a0o (fun a ha => ?_))))))
 cases h
 exact ⟨Y, ha.cut (l := [0, 8]) Y⟩
 refine a1g 5 Y m (a0t Y (by decide) Y (a0t Y (by decide) Y (a0k Y Y Y Y (a0g (a0o (fun a ha => ?_))))))
 cases h
 exact ⟨Y, ha.cut (l := [0, 8]) Y⟩
def b0v (_n : Nat) (c1 : Int) : Option Bool :=
 (bif decide (48 ≤ c1) then
  some (decide (c1 ≤ 57))
 else
  some false).bind fun v1 =>
 some v1
theorem c1r (n : Nat) (c1 : Int) (r : Bool) (hm : b0v n c1 = some r) {w : World}  :
  Calls Tryz.prog 137 #[.int .u8 c1] w fun e w' => e = .returned (.bool r) ∧ w' = w := by
 unfold b0v at hm
 refine a1a 9 Tryz.func137 Y Y Y (a0h (a0a (a0b Y Y Y (a0g (a0c (a0h (a0a (a0d Y Y Y (a0u Y Y Y Y Y (a0d Y Y Y ?_))))))))))
 obtain ⟨v1, g, hm⟩ := Yb hm
 refine a1z 3 (fun a w' => w = w' ∧ Has 9 a [(8, .bool v1)]) ?_ ?_
 rintro a j ⟨rfl, i⟩
 refine a0z i (a0b Y Y Y (a0g (a0c (a1d (a1j Y Y ?_)))))
 obtain rfl := Yo hm
 exact ⟨Y, Y⟩
 clear hm
 rcases a0f g with ⟨h, g⟩ | ⟨h, g⟩
 refine a1g 5 Y h (a0d Y Y Y (a0u Y Y Y Y Y (a0n Y Y Y Y (a0g (a0o (fun a ha => ?_))))))
 cases g
 exact ⟨Y, ha.cut (l := [8]) Y⟩
 refine a1g 5 Y h (a0t Y (by decide) Y (a0t Y (by decide) Y (a0k Y Y Y Y (a0g (a0o (fun a ha => ?_))))))
 cases g
 exact ⟨Y, ha.cut (l := [8]) Y⟩
theorem ent136 : Ent Tryz.prog 136 := fun _ _ => by kernel_rfl
theorem ent137 : Ent Tryz.prog 137 := fun _ _ => by kernel_rfl
def a7d (n : Nat) (s1 : Bs) (kont1 : Option Bool) : Nat → Int → Option Bool
 | 0, _ => none
 | mx1 + 1, i1 =>
  bif decide (i1 < (s1.length : Int)) then
   (sidx s1 i1).bind fun c1 =>
   (a8a n c1).bind fun v3 =>
   (bif !v3 then
    (sidx s1 i1).bind fun c3 =>
    (b0v n c3).bind fun v6 =>
    some (!v6)
   else
    some false).bind fun v4 =>
   (bif v4 then
    (sidx s1 i1).bind fun c2 =>
    some (c2 != 95)
   else
    some false).bind fun v5 =>
   bif v5 then
    some false
   else
    a7d n s1 kont1 mx1 (iadd .i64 i1 1)
  else
   kont1
theorem b2g (n : Nat) (s1 : Bs) (kont1 : Option Bool) (mx1 : Nat) (i1 : Int) : a7d n s1 kont1 (mx1 + 1) i1 =
  bif decide (i1 < (s1.length : Int)) then
   (sidx s1 i1).bind fun c1 =>
   (a8a n c1).bind fun v3 =>
   (bif !v3 then
    (sidx s1 i1).bind fun c3 =>
    (b0v n c3).bind fun v6 =>
    some (!v6)
   else
    some false).bind fun v4 =>
   (bif v4 then
    (sidx s1 i1).bind fun c2 =>
    some (c2 != 95)
   else
    some false).bind fun v5 =>
   bif v5 then
    some false
   else
    a7d n s1 kont1 mx1 (iadd .i64 i1 1)
  else
   kont1 := rfl
def a6i (n : Nat) (s1 : Bs) : Option Bool :=
 (bif decide ((s1.length : Int) < 1) then
  some true
 else
  some (decide (20 < (s1.length : Int)))).bind fun v1 =>
 (bif v1 then
  some true
 else
  (sidx s1 0).bind fun c4 =>
  (a8a n c4).bind fun v7 =>
  some (!v7)).bind fun v2 =>
 bif v2 then
  some false
 else
  a7d n s1 (
   some true) n 1
theorem b3z (n : Nat) (s1 : Bs) (r : Bool) (hm : a6i n s1 = some r) {w : World}  :
  Calls Tryz.prog 106 #[vs s1] w fun e w' => e = .returned (.bool r) ∧ w' = w := by
 unfold a6i at hm
 refine a1a 42 Tryz.func106 Y Y Y (a0h (a0a (a0b Y Y Y (a0g (a0c (a0h (a0h (a0a (a0d Y Y Y (b8j u9 Y Y Y (a0u Y Y Y Y Y (a0d Y Y Y ?_))))))))))))
 obtain ⟨v1, j, hm⟩ := Yb hm
 refine a1z 4 (fun a w' => w = w' ∧ Has 42 a [(0, vs s1), (11, .bool v1)]) ?_ ?_
 rintro a Z ⟨rfl, x⟩
 refine a0z x (a0d Y Y Y ?_)
 obtain ⟨v2, g, hm⟩ := Yb hm
 refine a1z 5 (fun a w' => w = w' ∧ Has 42 a [(0, vs s1), (17, .bool v2)]) ?_ ?_
 rintro a g0 ⟨rfl, z⟩
 refine a0z z (a0g (a0c ?_))
 rcases a0f hm with ⟨p, hm⟩ | ⟨p, hm⟩
 refine a0r 17 Y p (a0y Y (a0h (a0a (a0b Y Y Y (a0g (a0c (a1d (a0j (a1j Y Y ?_)))))))))
 obtain rfl := Yo hm
 exact ⟨Y, Y⟩
 refine a0r 17 Y p (a0q Y (a1c (a0c (a0h (a0h (a0a (a0b Y Y Y (a0g (a0c (a1i ?_))))))))))
 intro a G
 obtain ⟨kont1, hkont1⟩ : ∃ kont1 : Option Bool, kont1 = ( some true) := ⟨_, Y⟩
 replace hm : (fun m (s : Int) => a7d n s1 kont1 m s) n 1 = some r := by rw [hkont1]; exact hm
 refine a5p (id := 0) (fun m (s : Int) => a7d n s1 kont1 m s) (fun (y : Unit) => kont1) r (fun (s : Int) a w' => w = w' ∧ Has 42 a [(0, vs s1), (3, .int .i64 s)]) (fun (y : Unit) a w' => w = w' ∧ Has 42 a []) (fun _ => Y) ?_ ?_ hm ⟨Y, G.cut (l := [0, 3]) Y⟩
 clear hm; rintro _u a g1 hm ⟨rfl, H⟩
 rw [hkont1] at hm
 refine a2g (e := .exit 0) H (a1k (a0c (a0h (a0a (a0b Y Y Y (a0g (a0c (a1d (a1j Y Y ?_)))))))))
 obtain rfl := Yo hm
 exact ⟨Y, Y⟩
 clear hm hkont1; intro hk1 mx1 K ihx1
 rintro i1 a g2 hm ⟨rfl, I⟩
 simp only [b2g] at hm
 refine a1n I (a0h (a0h (a0a (a0d Y Y Y (a0d Y Y Y (b8j u9 Y Y Y (a0u Y Y Y Y Y (a0g (a0c ?_)))))))))
 rcases a0f hm with ⟨q, hm⟩ | ⟨q, hm⟩
 refine a0r 21 Y q (a0y Y (a1c (a0c (a0h (a1i (a0h (a0a (a0d Y Y Y (a0d Y Y Y ?_)))))))))
 obtain ⟨c1, M, hm⟩ := Yb hm
 refine c2h u9 Y Y Y Y M ?_
 obtain ⟨v3, N, hm⟩ := Yb hm
 refine a3c ent136 Y Y Y Y (b5b _ _ _ N) (a3d Y Y Y (a0d Y Y Y ?_))
 obtain ⟨v4, h, hm⟩ := Yb hm
 refine a1z 6 (fun a w' => w = w' ∧ Has 42 a [(0, vs s1), (3, .int .i64 i1), (35, .bool v4)]) ?_ ?_
 rintro a g3 ⟨rfl, J⟩
 refine a0z J (a0d Y Y Y ?_)
 obtain ⟨v5, i, hm⟩ := Yb hm
 refine a1z 5 (fun a w' => w = w' ∧ Has 42 a [(0, vs s1), (3, .int .i64 i1), (41, .bool v5)]) ?_ ?_
 rintro a g4 ⟨rfl, L⟩
 refine a0z L (a0g (a0c ?_))
 rcases a0f hm with ⟨t, hm⟩ | ⟨t, hm⟩
 refine a0r 41 Y t (a0y Y (a0h (a0a (a0b Y Y Y (a0g (a0c (a1d (a0v (a0j (a0j (a0v (a0j (a1j Y Y ?_)))))))))))))
 obtain rfl := Yo hm
 exact ⟨Y, Y⟩
 refine a0r 41 Y t (a0q Y (a1c (a1q (a0c (a0a (a0d Y Y Y (a0u Y Y Y Y Y (a0b Y Y Y (a0g (a0o (fun a ha => ihx1 (iadd .i64 i1 1) a _ hm ?_)))))))))))
 exact ⟨Y, ha.cut (l := [0, 3]) Y⟩
 clear hm
 rcases a0f i with ⟨u, i⟩ | ⟨u, i⟩
 refine a1g 36 Y u (a0d Y Y Y (a0d Y Y Y ?_))
 obtain ⟨c2, Q, i⟩ := Yb i
 refine c2h u9 Y Y Y Y Q (a0u Y Y Y Y Y (a0n Y Y Y Y (a0g (a0o (fun a ha => ?_)))))
 cases i
 exact ⟨Y, ha.cut (l := [0, 3, 41]) Y⟩
 refine a1g 36 Y u (a0t Y (by decide) Y (a0t Y (by decide) Y (a0t Y (by decide) Y (a0t Y (by decide) Y (a0k Y Y Y Y (a0g (a0o (fun a ha => ?_))))))))
 cases i
 exact ⟨Y, ha.cut (l := [0, 3, 41]) Y⟩
 clear hm
 rcases a0f h with ⟨v, h⟩ | ⟨v, h⟩
 refine a1g 29 Y v (a0d Y Y Y (a0d Y Y Y ?_))
 obtain ⟨c3, R, h⟩ := Yb h
 refine c2h u9 Y Y Y Y R ?_
 obtain ⟨v6, T, h⟩ := Yb h
 refine a3c ent137 Y Y Y Y (c1r _ _ _ T) (a3d Y Y Y (a0n Y Y Y Y (a0g (a0o (fun a ha => ?_)))))
 cases h
 exact ⟨Y, ha.cut (l := [0, 3, 35]) Y⟩
 refine a1g 29 Y v (a0t Y (by decide) Y (a0t Y (by decide) Y (a0t Y (by decide) Y (a0t Y (by decide) Y (a0t Y (by decide) Y (a0k Y Y Y Y (a0g (a0o (fun a ha => ?_)))))))))
 cases h
 exact ⟨Y, ha.cut (l := [0, 3, 35]) Y⟩
 refine a0r 21 Y q (a0q Y (a3p (a0x (a0x (fun a ha => hk1 () a _ hm ?_)))))
 exact ⟨Y, ha.cut (l := []) Y⟩
 clear hm
 rcases a0f g with ⟨k, g⟩ | ⟨k, g⟩
 refine a1g 12 Y k (a0t Y (by decide) Y (a0t Y (by decide) Y (a0t Y (by decide) Y (a0t Y (by decide) Y (a0n Y Y Y Y (a0g (a0o (fun a ha => ?_))))))))
 cases g
 exact ⟨Y, ha.cut (l := [0, 17]) Y⟩
 refine a1g 12 Y k (a0d Y Y Y ?_)
 obtain ⟨c4, U, g⟩ := Yb g
 refine c2h u9 Y Y Y Y U ?_
 obtain ⟨v7, V, g⟩ := Yb g
 refine a3c ent136 Y Y Y Y (b5b _ _ _ V) (a3d Y Y Y (a0k Y Y Y Y (a0g (a0o (fun a ha => ?_)))))
 cases g
 exact ⟨Y, ha.cut (l := [0, 17]) Y⟩
 clear hm
 rcases a0f j with ⟨o, j⟩ | ⟨o, j⟩
 refine a1g 7 Y o (a0t Y (by decide) Y (a0t Y (by decide) Y (a0t Y (by decide) Y (a0n Y Y Y Y (a0g (a0o (fun a ha => ?_)))))))
 cases j
 exact ⟨Y, ha.cut (l := [0, 11]) Y⟩
 refine a1g 7 Y o (a0d Y Y Y (b8j u9 Y Y Y (a0u Y Y Y Y Y (a0k Y Y Y Y (a0g (a0o (fun a ha => ?_)))))))
 cases j
 exact ⟨Y, ha.cut (l := [0, 11]) Y⟩
end Go.Proofs.YtknpjecpcmajiaaGreat.M

namespace Go.Proofs.YtknpjecpcmajiaaGreat.M
open Go Go.RowKit Rt
def a8e (_n : Nat) (op1 : Int) : Option Int :=
 (bif decide (op1 < 0) then
  some true
 else
  some (decide (17 ≤ op1))).bind fun v1 =>
 bif v1 then
  some (-1)
 else
  bif decide (op1 ≤ 4) then
   some 0
  else
   bif op1 == 14 then
    some 1
   else
    bif op1 == 11 then
     some 3
    else
     some 2
theorem c1n (n : Nat) (op1 : Int) (r : Int) (hm : a8e n op1 = some r) {w : World}  :
  Calls Tryz.prog 145 #[.int .i64 op1] w fun e w' => e = .returned (.int .i64 r) ∧ w' = w := by
 unfold a8e at hm
 refine a1a 15 Tryz.func145 Y Y Y (a0h (a0a (a0b Y Y Y (a0g (a0c (a0h (a0h (a0a (a0d Y Y Y (a0u Y Y Y Y Y (a0d Y Y Y ?_)))))))))))
 obtain ⟨v1, g, hm⟩ := Yb hm
 refine a1z 3 (fun a w' => w = w' ∧ Has 15 a [(0, .int .i64 op1), (8, .bool v1)]) ?_ ?_
 rintro a p ⟨rfl, o⟩
 refine a0z o (a0g (a0c ?_))
 rcases a0f hm with ⟨h, hm⟩ | ⟨h, hm⟩
 refine a0r 8 Y h (a0y Y (a0h (a0a (a0b Y Y Y (a0g (a0c (a1d (a0j (a1j Y Y ?_)))))))))
 obtain rfl := Yo hm
 exact ⟨Y, Y⟩
 refine a0r 8 Y h (a0q Y (a1c (a0c (a0h (a0h (a0a (a0d Y Y Y (a0u Y Y Y Y Y (a0g (a0c ?_))))))))))
 rcases a0f hm with ⟨i, hm⟩ | ⟨i, hm⟩
 refine a0r 10 Y i (a0y Y (a0h (a0a (a0b Y Y Y (a0g (a0c (a1d (a0j (a1j Y Y ?_)))))))))
 obtain rfl := Yo hm
 exact ⟨Y, Y⟩
 refine a0r 10 Y i (a0q Y (a1c (a0c (a0h (a0h (a0a (a0d Y Y Y (a0u Y Y Y Y Y (a0g (a0c ?_))))))))))
 rcases a0f hm with ⟨j, hm⟩ | ⟨j, hm⟩
 refine a0r 12 Y j (a0y Y (a0h (a0a (a0b Y Y Y (a0g (a0c (a1d (a0j (a1j Y Y ?_)))))))))
 obtain rfl := Yo hm
 exact ⟨Y, Y⟩
 refine a0r 12 Y j (a0q Y (a1c (a0c (a0h (a0h (a0a (a0d Y Y Y (a0u Y Y Y Y Y (a0g (a0c ?_))))))))))
 rcases a0f hm with ⟨k, hm⟩ | ⟨k, hm⟩
 refine a0r 14 Y k (a0y Y (a0h (a0a (a0b Y Y Y (a0g (a0c (a1d (a0j (a1j Y Y ?_)))))))))
 obtain rfl := Yo hm
 exact ⟨Y, Y⟩
 refine a0r 14 Y k (a0q Y (a1c (a0c (a0h (a0a (a0b Y Y Y (a0g (a0c (a1d (a1j Y Y ?_))))))))))
 obtain rfl := Yo hm
 exact ⟨Y, Y⟩
 clear hm
 rcases a0f g with ⟨m, g⟩ | ⟨m, g⟩
 refine a1g 5 Y m (a0t Y (by decide) Y (a0t Y (by decide) Y (a0n Y Y Y Y (a0g (a0o (fun a ha => ?_))))))
 cases g
 exact ⟨Y, ha.cut (l := [0, 8]) Y⟩
 refine a1g 5 Y m (a0d Y Y Y (a0u Y Y Y Y Y (a0k Y Y Y Y (a0g (a0o (fun a ha => ?_))))))
 cases g
 exact ⟨Y, ha.cut (l := [0, 8]) Y⟩
theorem ent145 : Ent Tryz.prog 145 := fun _ _ => by kernel_rfl
theorem ent138 : Ent Tryz.prog 138 := fun _ _ => by kernel_rfl
theorem ent106 : Ent Tryz.prog 106 := fun _ _ => by kernel_rfl
def a4o (n : Nat) (rec_ref35_shaped : Expr → Option Bool) (x1 : Expr) (kont1 : Option Bool) : Nat → Int → Option Bool
 | 0, _ => none
 | mx1 + 1, i1 =>
  bif decide (i1 < (x1.Args.length : Int)) then
   (ix x1.Args i1).bind fun ex1 =>
   (rec_ref35_shaped ex1).bind fun v7 =>
   bif !v7 then
    some false
   else
    a4o n rec_ref35_shaped x1 kont1 mx1 (iadd .i64 i1 1)
  else
   kont1
theorem b0o (n : Nat) (rec_ref35_shaped : Expr → Option Bool) (x1 : Expr) (kont1 : Option Bool) (mx1 : Nat) (i1 : Int) : a4o n rec_ref35_shaped x1 kont1 (mx1 + 1) i1 =
  bif decide (i1 < (x1.Args.length : Int)) then
   (ix x1.Args i1).bind fun ex1 =>
   (rec_ref35_shaped ex1).bind fun v7 =>
   bif !v7 then
    some false
   else
    a4o n rec_ref35_shaped x1 kont1 mx1 (iadd .i64 i1 1)
  else
   kont1 := rfl
def ref35_shaped : Nat → Expr → Option Bool
 | 0, _ => none
 | n + 1, x1 =>
  (a8e n x1.Op).bind fun v1 =>
  (bif (x1.Args.length : Int) != v1 then
   some true
  else
   (bif x1.Op != 0 then
    some (x1.N != 0)
   else
    some false).bind fun v12 =>
   some v12).bind fun v2 =>
  bif v2 then
   some false
  else
   (bif x1.Op == 1 then
    some true
   else
    some (x1.Op == 4)).bind fun v3 =>
   (bif v3 then
    (a6i n x1.Name).bind fun v11 =>
    some (!v11)
   else
    some false).bind fun v4 =>
   (bif v4 then
    some true
   else
    (bif !v3 then
     some (!(x1.Name == []))
    else
     some false).bind fun v10 =>
    some v10).bind fun v5 =>
   (bif v5 then
    some true
   else
    (bif x1.Op == 0 then
     (bif decide (x1.N < 0) then
      some true
     else
      some (decide (1099511627776 < x1.N))).bind fun v9 =>
     some v9
    else
     some false).bind fun v8 =>
    some v8).bind fun v6 =>
   bif v6 then
    some false
   else
    a4o n (ref35_shaped n) x1 (
     some true) n 0
theorem b0z (n : Nat) (x1 : Expr) : ref35_shaped (n + 1) x1 =
  (a8e n x1.Op).bind fun v1 =>
  (bif (x1.Args.length : Int) != v1 then
   some true
  else
   (bif x1.Op != 0 then
    some (x1.N != 0)
   else
    some false).bind fun v12 =>
   some v12).bind fun v2 =>
  bif v2 then
   some false
  else
   (bif x1.Op == 1 then
    some true
   else
    some (x1.Op == 4)).bind fun v3 =>
   (bif v3 then
    (a6i n x1.Name).bind fun v11 =>
    some (!v11)
   else
    some false).bind fun v4 =>
   (bif v4 then
    some true
   else
    (bif !v3 then
     some (!(x1.Name == []))
    else
     some false).bind fun v10 =>
    some v10).bind fun v5 =>
   (bif v5 then
    some true
   else
    (bif x1.Op == 0 then
     (bif decide (x1.N < 0) then
      some true
     else
      some (decide (1099511627776 < x1.N))).bind fun v9 =>
     some v9
    else
     some false).bind fun v8 =>
    some v8).bind fun v6 =>
   bif v6 then
    some false
   else
    a4o n (ref35_shaped n) x1 (
     some true) n 0 := rfl
theorem b9d (n : Nat) : (∀ (x1 : Expr) (r : Bool) (_ : ref35_shaped n x1 = some r) {w : World} {F : Frz} (_ : Sat F w) {g0 : Option Addr} {g1 : Nat} {H : Nat} (_ : SlR rp_Expr F g0 g1 H x1.Args), Calls Tryz.prog 138 #[.agg #[.int .i64 x1.Op, .int .i64 x1.N, vs x1.Name, .slice g0 g1 H]] w fun e w' => ∃ v F' O', e = .returned v ∧ HS F w [] F' O' w' ∧ (v = .bool r ∧ O' = [])) := by
 induction n with
 | zero =>
  intro x1 r hm
  exact absurd (show (none : Option Bool) = some r from hm) (by simp)
 | succ n ih =>
  intro x1 r hm w F hs g0 g1 H g2
  rw [b0z] at hm
  have h := HS.init hs
  refine a1a 75 Tryz.func138 Y Y Y (a0h (a0a (a2i Y Y Y Y h ?_)))
  intro b1 h4 go
  refine a0b Y Y Y (a0g (a0c (a0h (a0h (a3j (by kernel_rfl) (by kernel_rfl) go (a1e Y Y Y Y (fun _ _ _ _ => a0e fa24_3 Y Y Y Yn) (a1e Y Y Y Y (fun _ _ _ hq => a0p ag22 Y Y hq Y (i := 0) Y Y Yn) (a1e Y Y Y Y (fun _ _ _ _ => a1x g2.len u22 Y Y Y Yn) (a1e Y Y Y Y (fun _ _ _ _ => a0e fa24_0 Y Y Y Yn) (a1e Y Y Y Y (fun _ _ _ hq => a0p ag3 Y Y hq Y (i := 0) Y Y Yn) ?_))))))))))
  obtain ⟨v1, gp, hm⟩ := Yb hm
  refine a9c ent145 Y Y Y Y (fun _ _ hleq hq => c1n _ _ _ gp) (a1e Y Y Y Y (fun _ _ _ _ => a0u Y Y Y Y Y Yn) (a1e Y Y Y Y (fun _ _ _ _ => a0d Y Y Y Yn) ?_))
  obtain ⟨v2, k, hm⟩ := Yb hm
  refine b8v 9 (fun a => Has 75 a [(1, .pointer (some ⟨b1, 0, none⟩)), (21, .bool v2)]) ?_ ?_
  intro a gf
  refine a9e gf (b0t ?_)
  rintro q ⟨gd, gq, j⟩
  refine a0c ?_
  rcases a0f hm with ⟨g3, hm⟩ | ⟨g3, hm⟩
  refine a0r 21 Y g3 (a0y Y (a0h (a0a (a0b Y Y Y (a0g (a0c (a1d (a0j (a1j Y Y ?_)))))))))
  obtain rfl := Yo hm
  exact ⟨_, _, _, Y, j.Yp [] Y Y, Y, Y⟩
  refine a0r 21 Y g3 (a0q Y (a1c (a0c (a0h (a0a (a0e fa24_0 Y Y Y (a0p ag3 Y Y j Y (i := 0) Y Y (a0u Y Y Y Y Y (a0d Y Y Y ?_)))))))))
  obtain ⟨v3, I, hm⟩ := Yb hm
  refine a1z 4 (fun a w' => q = w' ∧ Has 75 a [(1, .pointer (some ⟨b1, 0, none⟩)), (29, .bool v3)]) ?_ ?_
  rintro a h5 ⟨rfl, gg⟩
  refine a0z gg (a0b Y Y Y (a0g (a0c (a0h (a0h (a0a (a0d Y Y Y (a0d Y Y Y ?_))))))))
  obtain ⟨v4, t, hm⟩ := Yb hm
  refine a1z 5 (fun a w' => q = w' ∧ Has 75 a [(1, .pointer (some ⟨b1, 0, none⟩)), (3, .bool v3), (36, .bool v4)]) ?_ ?_
  rintro a h6 ⟨rfl, gh⟩
  refine a0z gh (a0d Y Y Y ?_)
  obtain ⟨v5, o, hm⟩ := Yb hm
  refine a1z 8 (fun a w' => q = w' ∧ Has 75 a [(1, .pointer (some ⟨b1, 0, none⟩)), (45, .bool v5)]) ?_ ?_
  rintro a h7 ⟨rfl, gi⟩
  refine a0z gi (a0d Y Y Y ?_)
  obtain ⟨v6, p, hm⟩ := Yb hm
  refine a1z 14 (fun a w' => q = w' ∧ Has 75 a [(1, .pointer (some ⟨b1, 0, none⟩)), (60, .bool v6)]) ?_ ?_
  rintro a h8 ⟨rfl, gj⟩
  refine a0z gj (a0g (a0c ?_))
  rcases a0f hm with ⟨g4, hm⟩ | ⟨g4, hm⟩
  refine a0r 60 Y g4 (a0y Y (a0h (a0a (a0b Y Y Y (a0g (a0c (a1d (a0j (a1j Y Y ?_)))))))))
  obtain rfl := Yo hm
  exact ⟨_, _, _, Y, j.Yp [] Y Y, Y, Y⟩
  refine a0r 60 Y g4 (a0q Y (a1c (a0c (a0h (a0h (a0a (a0b Y Y Y (a0g (a0c (a1i ?_))))))))))
  intro a gk
  obtain ⟨kont1, hkont1⟩ : ∃ kont1 : Option Bool, kont1 = ( some true) := ⟨_, Y⟩
  replace hm : (fun m (s : Int) => a4o n (ref35_shaped n) x1 kont1 m s) n 0 = some r := by rw [hkont1]; exact hm
  refine a5p (id := 0) (fun m (s : Int) => a4o n (ref35_shaped n) x1 kont1 m s) (fun (y : Unit) => kont1) r (fun (s : Int) a w' => ∃ (g5 : Frz), Frz.le gd g5 ∧ HS F w [] g5 [.box b1 24 [.int .i64 x1.Op, .int .i64 x1.N, vs x1.Name, .slice g0 g1 H]] w' ∧ Has 75 a [(1, .pointer (some ⟨b1, 0, none⟩)), (4, .int .i64 s)]) (fun (y : Unit) a w' => ∃ (g6 : Frz), Frz.le gd g6 ∧ HS F w [] g6 [] w' ∧ Has 75 a []) (fun _ => Y) ?_ ?_ hm ⟨_, Yf, j.Yp [0] Y Y, gk.cut (l := [1, 4]) Y⟩
  clear hm; rintro _u a h9 hm ⟨g6, hb, gr, gl⟩
  rw [hkont1] at hm
  refine a2g (e := .exit 0) gl (a1k (a0c (a0h (a0a (a0b Y Y Y (a0g (a0c (a1d (a1j Y Y ?_)))))))))
  obtain rfl := Yo hm
  exact ⟨_, _, _, Y, gr.Yp [] Y Y, Y, Y⟩
  clear hm hkont1; intro hk1 mx1 K ihx1
  rintro i1 a hc hm ⟨g5, g7, G, gm⟩
  simp only [b0o] at hm
  refine a1n gm (a0h (a0h (a0a (a0d Y Y Y (a0e fa24_3 Y Y Y (a0p ag22 Y Y G Y (i := 0) Y Y (a1x g2.len u22 Y Y Y (a0u Y Y Y Y Y (a0g (a0c ?_))))))))))
  rcases a0f hm with ⟨g8, hm⟩ | ⟨g8, hm⟩
  refine a0r 65 Y g8 (a0y Y (a1c (a0c (a0h (a1i (a0h (a0a (a0e fa24_3 Y Y Y (a0p ag22 Y Y G Y (i := 0) Y Y (a0d Y Y Y ?_))))))))))
  obtain ⟨ex1, gs, hm⟩ := Yb hm
  refine a2e (r := rp_Expr) u22 sz24 Y Y Y Y ((g2.mono gq).mono g7) gs ?_
  intro b2 o1 H gt gu
  obtain ⟨hd, he, hf, gv, gw⟩ := expr_iff.1 gu
  subst gv
  refine a4g ag24 sz24 Y Y G gt Y Y ?_
  obtain ⟨v7, gx, hm⟩ := Yb hm
  refine a0i ent138 Y Y Y Y G (ih _ _ gx G.sat gw) ?_
  rintro _ hg _ h0 gy ge ⟨rfl, rfl⟩
  refine a3d Y Y Y (a0g (a0c ?_))
  rcases a0f hm with ⟨g9, hm⟩ | ⟨g9, hm⟩
  refine a0r 74 Y g9 (a0y Y (a0h (a0a (a0b Y Y Y (a0g (a0c (a1d (a0v (a0j (a0j (a0v (a0j (a1j Y Y ?_)))))))))))))
  obtain rfl := Yo hm
  exact ⟨_, _, _, Y, ge.Yp [] Y Y, Y, Y⟩
  refine a0r 74 Y g9 (a0q Y (a1c (a1q (a0c (a0a (a0d Y Y Y (a0u Y Y Y Y Y (a0b Y Y Y (a0g (a0o (fun a ha => ihx1 (iadd .i64 i1 1) a _ hm ?_)))))))))))
  exact ⟨_, (g7.trans gy), ge.Yp [0] Y Y, ha.cut (l := [1, 4]) Y⟩
  refine a0r 65 Y g8 (a0q Y (a3p (a0x (a0x (fun a ha => hk1 () a _ hm ?_)))))
  exact ⟨_, g7, G.Yp [] Y Y, ha.cut (l := []) Y⟩
  clear hm
  rcases a0f p with ⟨J, p⟩ | ⟨J, p⟩
  refine a1g 46 Y J (a0t Y (by decide) Y (a0t Y (by decide) Y (a0t Y (by decide) Y (a0t Y (by decide) Y (a0t Y (by decide) Y (a0t Y (by decide) Y (a0t Y (by decide) Y (a0t Y (by decide) Y (a0t Y (by decide) Y (a0t Y (by decide) Y (a0t Y (by decide) Y (a0t Y (by decide) Y (a0t Y (by decide) Y (a0n Y Y Y Y (a0g (a0o (fun a ha => ?_)))))))))))))))))
  cases p
  exact ⟨Y, ha.cut (l := [1, 60]) Y⟩
  refine a1g 46 Y J (a0e fa24_0 Y Y Y (a0p ag3 Y Y j Y (i := 0) Y Y (a0u Y Y Y Y Y (a0d Y Y Y ?_))))
  obtain ⟨v8, g, p⟩ := Yb p
  refine a1z 9 (fun a w' => q = w' ∧ Has 75 a [(1, .pointer (some ⟨b1, 0, none⟩)), (46, .bool false), (59, .bool v8)]) ?_ ?_
  rintro a h1 ⟨rfl, gn⟩
  refine a0z gn (a0k Y Y Y Y (a0g (a0o (fun a ha => ?_))))
  cases p
  exact ⟨Y, ha.cut (l := [1, 60]) Y⟩
  clear p
  rcases a0f g with ⟨L, g⟩ | ⟨L, g⟩
  refine a1g 50 Y L (a0e fa24_1 Y Y Y (a0p ag3 Y Y j Y (i := 0) Y Y (a0u Y Y Y Y Y (a0d Y Y Y ?_))))
  obtain ⟨v9, u, g⟩ := Yb g
  refine a1z 4 (fun a w' => q = w' ∧ Has 75 a [(1, .pointer (some ⟨b1, 0, none⟩)), (46, .bool false), (50, .bool true), (58, .bool v9)]) ?_ ?_
  rintro a h2 ⟨rfl, ga⟩
  refine a0z ga (a0n Y Y Y Y (a0g (a0o (fun a ha => ?_))))
  cases g
  exact ⟨Y, ha.cut (l := [1, 46, 59]) Y⟩
  clear g
  rcases a0f u with ⟨M, u⟩ | ⟨M, u⟩
  refine a1g 54 Y M (a0t Y (by decide) Y (a0t Y (by decide) Y (a0t Y (by decide) Y (a0n Y Y Y Y (a0g (a0o (fun a ha => ?_)))))))
  cases u
  exact ⟨Y, ha.cut (l := [1, 46, 50, 58]) Y⟩
  refine a1g 54 Y M (a0e fa24_1 Y Y Y (a0p ag3 Y Y j Y (i := 0) Y Y (a0u Y Y Y Y Y (a0k Y Y Y Y (a0g (a0o (fun a ha => ?_)))))))
  cases u
  exact ⟨Y, ha.cut (l := [1, 46, 50, 58]) Y⟩
  refine a1g 50 Y L (a0t Y (by decide) Y (a0t Y (by decide) Y (a0t Y (by decide) Y (a0t Y (by decide) Y (a0t Y (by decide) Y (a0t Y (by decide) Y (a0t Y (by decide) Y (a0t Y (by decide) Y (a0k Y Y Y Y (a0g (a0o (fun a ha => ?_))))))))))))
  cases g
  exact ⟨Y, ha.cut (l := [1, 46, 59]) Y⟩
  clear hm
  rcases a0f o with ⟨Q, o⟩ | ⟨Q, o⟩
  refine a1g 37 Y Q (a0t Y (by decide) Y (a0t Y (by decide) Y (a0t Y (by decide) Y (a0t Y (by decide) Y (a0t Y (by decide) Y (a0t Y (by decide) Y (a0t Y (by decide) Y (a0n Y Y Y Y (a0g (a0o (fun a ha => ?_)))))))))))
  cases o
  exact ⟨Y, ha.cut (l := [1, 45]) Y⟩
  refine a1g 37 Y Q (a0d Y Y Y (a3d Y Y Y (a0d Y Y Y ?_)))
  obtain ⟨v10, x, o⟩ := Yb o
  refine a1z 4 (fun a w' => q = w' ∧ Has 75 a [(1, .pointer (some ⟨b1, 0, none⟩)), (37, .bool false), (44, .bool v10)]) ?_ ?_
  rintro a h3 ⟨rfl, gb⟩
  refine a0z gb (a0k Y Y Y Y (a0g (a0o (fun a ha => ?_))))
  cases o
  exact ⟨Y, ha.cut (l := [1, 45]) Y⟩
  clear o
  rcases a0f x with ⟨R, x⟩ | ⟨R, x⟩
  refine a1g 40 Y R (a0e fa24_2 Y Y Y (a0p ag9 Y Y j Y (i := 0) Y Y (c6c Y Y Y Y Y (a0n Y Y Y Y (a0g (a0o (fun a ha => ?_)))))))
  cases x
  exact ⟨Y, ha.cut (l := [1, 37, 44]) Y⟩
  refine a1g 40 Y R (a0t Y (by decide) Y (a0t Y (by decide) Y (a0t Y (by decide) Y (a0k Y Y Y Y (a0g (a0o (fun a ha => ?_)))))))
  cases x
  exact ⟨Y, ha.cut (l := [1, 37, 44]) Y⟩
  clear hm
  rcases a0f t with ⟨T, t⟩ | ⟨T, t⟩
  refine a1g 31 Y T (a0e fa24_2 Y Y Y (a0p ag9 Y Y j Y (i := 0) Y Y ?_))
  obtain ⟨v11, gz, t⟩ := Yb t
  refine a3c ent106 Y Y Y Y (b3z _ _ _ gz) (a3d Y Y Y (a0n Y Y Y Y (a0g (a0o (fun a ha => ?_)))))
  cases t
  exact ⟨Y, ha.cut (l := [1, 3, 36]) Y⟩
  refine a1g 31 Y T (a0t Y (by decide) Y (a0t Y (by decide) Y (a0t Y (by decide) Y (a0t Y (by decide) Y (a0k Y Y Y Y (a0g (a0o (fun a ha => ?_))))))))
  cases t
  exact ⟨Y, ha.cut (l := [1, 3, 36]) Y⟩
  clear hm
  rcases a0f I with ⟨U, I⟩ | ⟨U, I⟩
  refine a1g 25 Y U (a0t Y (by decide) Y (a0t Y (by decide) Y (a0t Y (by decide) Y (a0n Y Y Y Y (a0g (a0o (fun a ha => ?_)))))))
  cases I
  exact ⟨Y, ha.cut (l := [1, 29]) Y⟩
  refine a1g 25 Y U (a0e fa24_0 Y Y Y (a0p ag3 Y Y j Y (i := 0) Y Y (a0u Y Y Y Y Y (a0k Y Y Y Y (a0g (a0o (fun a ha => ?_)))))))
  cases I
  exact ⟨Y, ha.cut (l := [1, 29]) Y⟩
  clear hm
  rcases a0f k with ⟨V, k⟩ | ⟨V, k⟩
  refine b1r 12 Y V (a3g Y Y Y (a3g Y Y Y (a3g Y Y Y (a3g Y Y Y (a3g Y Y Y (a3g Y Y Y (a3g Y Y Y (a3g Y Y Y (a1e Y Y Y Y (fun _ _ _ _ => a0n Y Y Y Y Yn) (b1w (fun a ha => ?_)))))))))))
  cases k
  exact ha.cut (l := [1, 21]) Y
  refine b1r 12 Y V (a1e Y Y Y Y (fun _ _ _ _ => a0e fa24_0 Y Y Y Yn) (a1e Y Y Y Y (fun _ _ _ hq => a0p ag3 Y Y hq Y (i := 0) Y Y Yn) (a1e Y Y Y Y (fun _ _ _ _ => a0u Y Y Y Y Y Yn) (a1e Y Y Y Y (fun _ _ _ _ => a0d Y Y Y Yn) ?_))))
  obtain ⟨v12, z, k⟩ := Yb k
  refine b8v 4 (fun a => Has 75 a [(1, .pointer (some ⟨b1, 0, none⟩)), (12, .bool false), (20, .bool v12)]) ?_ ?_
  intro a gc
  refine a9e gc (a1e Y Y Y Y (fun _ _ _ _ => a0k Y Y Y Y Yn) (b1w (fun a ha => ?_)))
  cases k
  exact ha.cut (l := [1, 21]) Y
  clear k
  rcases a0f z with ⟨Z, z⟩ | ⟨Z, z⟩
  refine b1r 16 Y Z (a1e Y Y Y Y (fun _ _ _ _ => a0e fa24_1 Y Y Y Yn) (a1e Y Y Y Y (fun _ _ _ hq => a0p ag3 Y Y hq Y (i := 0) Y Y Yn) (a1e Y Y Y Y (fun _ _ _ _ => a0u Y Y Y Y Y Yn) (a1e Y Y Y Y (fun _ _ _ _ => a0n Y Y Y Y Yn) (b1w (fun a ha => ?_))))))
  cases z
  exact ha.cut (l := [1, 12, 20]) Y
  refine b1r 16 Y Z (a3g Y Y Y (a3g Y Y Y (a3g Y Y Y (a1e Y Y Y Y (fun _ _ _ _ => a0k Y Y Y Y Yn) (b1w (fun a ha => ?_))))))
  cases z
  exact ha.cut (l := [1, 12, 20]) Y
theorem c0e (n : Nat) (x1 : Expr) (r : Bool) (hm : ref35_shaped n x1 = some r) {w : World} {F : Frz} (hs : Sat F w) {g : Option Addr} {h : Nat} {i : Nat} (j : SlR rp_Expr F g h i x1.Args) :
  Calls Tryz.prog 138 #[.agg #[.int .i64 x1.Op, .int .i64 x1.N, vs x1.Name, .slice g h i]] w fun e w' => ∃ v F' O', e = .returned v ∧ HS F w [] F' O' w' ∧ (v = .bool r ∧ O' = []) :=
 (b9d n) x1 r hm hs j
def b3f (n : Nat) (x1 : Expr) : Option Bool :=
 (a7i n x1 100 10).bind fun v1 =>
 (bif v1 then
  (ref35_shaped n x1).bind fun v3 =>
  some v3
 else
  some false).bind fun v2 =>
 some v2
theorem c3l (n : Nat) (x1 : Expr) (r : Bool) (hm : b3f n x1 = some r) {w : World} {F : Frz} (hs : Sat F w) {k : Option Addr} {m : Nat} {o : Nat} (t : SlR rp_Expr F k m o x1.Args) :
  Calls Tryz.prog 107 #[.agg #[.int .i64 x1.Op, .int .i64 x1.N, vs x1.Name, .slice k m o]] w fun e w' => ∃ v F' O', e = .returned v ∧ HS F w [] F' O' w' ∧ (v = .bool r ∧ O' = []) := by
 unfold b3f at hm
 have h := HS.init hs
 refine a1a 9 Tryz.func107 Y Y Y (a0h (a0a (a2i Y Y Y Y h ?_)))
 intro b1 K p
 refine a0b Y Y Y (a0g (a0c (a0h (a0a (a0m ag24 sz24 Y Y p Y (i := 0) Y Y ?_)))))
 obtain ⟨v1, x, hm⟩ := Yb hm
 refine a0i ent31 Y Y Y Y p (b8o _ _ _ _ _ x p.sat t) ?_
 rintro _ y _ L z j ⟨rfl, rfl⟩
 refine a0d Y Y Y ?_
 obtain ⟨v2, g, hm⟩ := Yb hm
 refine a1z 3 (fun a w' => ∃ (q : Frz), Frz.le y q ∧ HS F w [] q [.box b1 24 [.int .i64 x1.Op, .int .i64 x1.N, vs x1.Name, .slice k m o]] w' ∧ Has 9 a [(8, .bool v2)]) ?_ ?_
 rintro a M ⟨q, Q, G, u⟩
 refine a0z u (a0b Y Y Y (a0g (a0c (a1d (a1j Y Y ?_)))))
 obtain rfl := Yo hm
 exact ⟨_, _, _, Y, G.Yp [] Y Y, Y, Y⟩
 clear hm
 rcases a0f g with ⟨s, g⟩ | ⟨s, g⟩
 refine a1g 5 Y s (a0m ag24 sz24 Y Y j Y (i := 0) Y Y ?_)
 obtain ⟨v3, H, g⟩ := Yb g
 refine a0i ent138 Y Y Y Y j (c0e _ _ _ H j.sat (t.mono z)) ?_
 rintro _ R _ T I J ⟨rfl, rfl⟩
 refine a0n Y Y Y Y (a0g (a0o (fun a ha => ?_)))
 cases g
 exact ⟨_, I, J.Yp [0] Y Y, ha.cut (l := [8]) Y⟩
 refine a1g 5 Y s (a0t Y (by decide) Y (a0t Y (by decide) Y (a0k Y Y Y Y (a0g (a0o (fun a ha => ?_))))))
 cases g
 exact ⟨_, Yf, j.Yp [0] Y Y, ha.cut (l := [8]) Y⟩
theorem ent107 : Ent Tryz.prog 107 := fun _ _ => by kernel_rfl
def b0f (n : Nat) (t1 : Tariff) : Option Bool :=
 (a6i n t1.Name).bind fun v1 =>
 (bif v1 then
  (b3f n t1.Fee).bind fun v5 =>
  some v5
 else
  some false).bind fun v2 =>
 (bif v2 then
  some (decide ((-1) ≤ t1.Cap))
 else
  some false).bind fun v3 =>
 (bif v3 then
  some (decide (t1.Cap ≤ 1099511627776))
 else
  some false).bind fun v4 =>
 some v4
theorem b9b (n : Nat) (t1 : Tariff) (r : Bool) (hm : b0f n t1 = some r) {w : World} {F : Frz} (hs : Sat F w) {o : Option Addr} {p : Nat} {q : Nat} (J : SlR rp_Expr F o p q t1.Fee.Args) :
  Calls Tryz.prog 72 #[.agg #[vs t1.Name, .int .i64 t1.Fee.Op, .int .i64 t1.Fee.N, vs t1.Fee.Name, .slice o p q, .int .i64 t1.Cap]] w fun e w' => ∃ v F' O', e = .returned v ∧ HS F w [] F' O' w' ∧ (v = .bool r ∧ O' = []) := by
 unfold b0f at hm
 have h := HS.init hs
 refine a1a 21 Tryz.func72 Y Y Y (a0h (a0a (a2i Y Y Y Y h ?_)))
 intro b1 R j
 refine a0b Y Y Y (a0g (a0c (a0h (a0a (a0e fa26_0 Y Y Y (a0p ag9 Y Y j Y (i := 0) Y Y ?_))))))
 obtain ⟨v1, K, hm⟩ := Yb hm
 refine a3c ent106 Y Y Y Y (b3z _ _ _ K) (a0d Y Y Y ?_)
 obtain ⟨v2, g, hm⟩ := Yb hm
 refine a1z 4 (fun a w' => ∃ (s : Frz), Frz.le F s ∧ HS F w [] s [.box b1 26 [vs t1.Name, .int .i64 t1.Fee.Op, .int .i64 t1.Fee.N, vs t1.Fee.Name, .slice o p q, .int .i64 t1.Cap]] w' ∧ Has 21 a [(1, .pointer (some ⟨b1, 0, none⟩)), (10, .bool v2)]) ?_ ?_
 rintro a z ⟨s, T, t, G⟩
 refine a0z G (a0d Y Y Y ?_)
 obtain ⟨v3, k, hm⟩ := Yb hm
 refine a1z 4 (fun a w' => z = w' ∧ Has 21 a [(1, .pointer (some ⟨b1, 0, none⟩)), (15, .bool v3)]) ?_ ?_
 rintro a U ⟨rfl, H⟩
 refine a0z H (a0d Y Y Y ?_)
 obtain ⟨v4, m, hm⟩ := Yb hm
 refine a1z 4 (fun a w' => z = w' ∧ Has 21 a [(20, .bool v4)]) ?_ ?_
 rintro a V ⟨rfl, I⟩
 refine a0z I (a0b Y Y Y (a0g (a0c (a1d (a1j Y Y ?_)))))
 obtain rfl := Yo hm
 exact ⟨_, _, _, Y, t.Yp [] Y Y, Y, Y⟩
 clear hm
 rcases a0f m with ⟨u, m⟩ | ⟨u, m⟩
 refine a1g 16 Y u (a0e fa26_2 Y Y Y (a0p ag3 Y Y t Y (i := 0) Y Y (a0u Y Y Y Y Y (a0n Y Y Y Y (a0g (a0o (fun a ha => ?_)))))))
 cases m
 exact ⟨Y, ha.cut (l := [20]) Y⟩
 refine a1g 16 Y u (a0t Y (by decide) Y (a0t Y (by decide) Y (a0t Y (by decide) Y (a0k Y Y Y Y (a0g (a0o (fun a ha => ?_)))))))
 cases m
 exact ⟨Y, ha.cut (l := [20]) Y⟩
 clear hm
 rcases a0f k with ⟨x, k⟩ | ⟨x, k⟩
 refine a1g 11 Y x (a0e fa26_2 Y Y Y (a0p ag3 Y Y t Y (i := 0) Y Y (a0u Y Y Y Y Y (a0n Y Y Y Y (a0g (a0o (fun a ha => ?_)))))))
 cases k
 exact ⟨Y, ha.cut (l := [1, 15]) Y⟩
 refine a1g 11 Y x (a0t Y (by decide) Y (a0t Y (by decide) Y (a0t Y (by decide) Y (a0k Y Y Y Y (a0g (a0o (fun a ha => ?_)))))))
 cases k
 exact ⟨Y, ha.cut (l := [1, 15]) Y⟩
 clear hm
 rcases a0f g with ⟨y, g⟩ | ⟨y, g⟩
 refine a1g 6 Y y (a0e fa26_1 Y Y Y (a1u (cs' := [.int .i64 t1.Fee.Op, .int .i64 t1.Fee.N, vs t1.Fee.Name, .slice o p q]) ag24 sz24 Y Y j Y (i := 0) Y Y Y ?_))
 obtain ⟨v5, L, g⟩ := Yb g
 refine a0i ent107 Y Y Y Y j (c3l _ _ _ L j.sat J) ?_
 rintro _ Z _ g0 M Q ⟨rfl, rfl⟩
 refine a0n Y Y Y Y (a0g (a0o (fun a ha => ?_)))
 cases g
 exact ⟨_, M, Q.Yp [0] Y Y, ha.cut (l := [1, 10]) Y⟩
 refine a1g 6 Y y (a0t Y (by decide) Y (a0t Y (by decide) Y (a0t Y (by decide) Y (a0k Y Y Y Y (a0g (a0o (fun a ha => ?_)))))))
 cases g
 exact ⟨_, Yf, j.Yp [0] Y Y, ha.cut (l := [1, 10]) Y⟩
def a5c (n : Nat) (l1 : (List Bs)) (i1 : Int) (kont2 : Option Bool) : Nat → Int → Option Bool
 | 0, _ => none
 | mx2 + 1, k1 =>
  bif decide (k1 < i1) then
   (ix l1 k1).bind fun ex2 =>
   (ix l1 i1).bind fun ex3 =>
   bif ex2 == ex3 then
    some false
   else
    a5c n l1 i1 kont2 mx2 (iadd .i64 k1 1)
  else
   kont2
theorem b1m (n : Nat) (l1 : (List Bs)) (i1 : Int) (kont2 : Option Bool) (mx2 : Nat) (k1 : Int) : a5c n l1 i1 kont2 (mx2 + 1) k1 =
  bif decide (k1 < i1) then
   (ix l1 k1).bind fun ex2 =>
   (ix l1 i1).bind fun ex3 =>
   bif ex2 == ex3 then
    some false
   else
    a5c n l1 i1 kont2 mx2 (iadd .i64 k1 1)
  else
   kont2 := rfl
def a5e (n : Nat) (l1 : (List Bs)) (kont1 : Option Bool) : Nat → Int → Option Bool
 | 0, _ => none
 | mx1 + 1, i1 =>
  bif decide (i1 < (l1.length : Int)) then
   (ix l1 i1).bind fun ex1 =>
   (a6i n ex1).bind fun v1 =>
   bif !v1 then
    some false
   else
    a5c n l1 i1 (
     a5e n l1 kont1 mx1 (iadd .i64 i1 1)) n 0
  else
   kont1
theorem b1p (n : Nat) (l1 : (List Bs)) (kont1 : Option Bool) (mx1 : Nat) (i1 : Int) : a5e n l1 kont1 (mx1 + 1) i1 =
  bif decide (i1 < (l1.length : Int)) then
   (ix l1 i1).bind fun ex1 =>
   (a6i n ex1).bind fun v1 =>
   bif !v1 then
    some false
   else
    a5c n l1 i1 (
     a5e n l1 kont1 mx1 (iadd .i64 i1 1)) n 0
  else
   kont1 := rfl
def b2o (n : Nat) (l1 : (List Bs)) : Option Bool :=
 bif decide (6 < (l1.length : Int)) then
  some false
 else
  a5e n l1 (
   some true) n 0
theorem c1o (n : Nat) (l1 : (List Bs)) (r : Bool) (hm : b2o n l1 = some r) {w : World} {F : Frz} (hs : Sat F w) {i : Option Addr} {k : Nat} {g : Nat} (o : SlR Rp.str F i k g l1) :
  Calls Tryz.prog 71 #[.slice i k g] w fun e w' => ∃ v F' O', e = .returned v ∧ HS F w [] F' O' w' ∧ (v = .bool r ∧ O' = []) := by
 unfold b2o at hm
 have h := HS.init hs
 refine a1a 34 Tryz.func71 Y Y Y (a0h (a0a (a0b Y Y Y (a0g (a0c (a0h (a0h (a0a (a0d Y Y Y (a1x o.len u27 Y Y Y (a0u Y Y Y Y Y (a0g (a0c ?_)))))))))))))
 rcases a0f hm with ⟨x, hm⟩ | ⟨x, hm⟩
 refine a0r 7 Y x (a0y Y (a0h (a0a (a0b Y Y Y (a0g (a0c (a1d (a0j (a1j Y Y ?_)))))))))
 obtain rfl := Yo hm
 exact ⟨_, _, _, Y, h.Yp [] Y Y, Y, Y⟩
 refine a0r 7 Y x (a0q Y (a1c (a0c (a0h (a0h (a0a (a0b Y Y Y (a0g (a0c (a1i ?_))))))))))
 intro a U
 obtain ⟨kont1, hkont1⟩ : ∃ kont1 : Option Bool, kont1 = ( some true) := ⟨_, Y⟩
 replace hm : (fun m (s : Int) => a5e n l1 kont1 m s) n 0 = some r := by rw [hkont1]; exact hm
 refine a5p (id := 0) (fun m (s : Int) => a5e n l1 kont1 m s) (fun (y : Unit) => kont1) r (fun (s : Int) a w' => ∃ (p : Frz), Frz.le F p ∧ HS F w [] p [] w' ∧ Has 34 a [(0, .slice i k g), (3, .int .i64 s)]) (fun (y : Unit) a w' => ∃ (z : Frz), Frz.le F z ∧ HS F w [] z [] w' ∧ Has 34 a []) (fun _ => Y) ?_ ?_ hm ⟨_, Yf, h.Yp [] Y Y, U.cut (l := [0, 3]) Y⟩
 clear hm; rintro _u a gm hm ⟨z, gn, g3, V⟩
 rw [hkont1] at hm
 refine a2g (e := .exit 0) V (a1k (a0c (a0h (a0a (a0b Y Y Y (a0g (a0c (a1d (a1j Y Y ?_)))))))))
 obtain rfl := Yo hm
 exact ⟨_, _, _, Y, g3.Yp [] Y Y, Y, Y⟩
 clear hm hkont1; intro hk1 mx1 K ihx1
 rintro i1 a go hm ⟨p, q, t, Z⟩
 simp only [b1p] at hm
 refine a1n Z (a0h (a0h (a0a (a0d Y Y Y (a0d Y Y Y (a1x o.len u27 Y Y Y (a0u Y Y Y Y Y (a0g (a0c ?_)))))))))
 rcases a0f hm with ⟨G, hm⟩ | ⟨G, hm⟩
 refine a0r 11 Y G (a0y Y (a1c (a0c (a0h (a1i (a0h (a0h (a0a (a0d Y Y Y (a0d Y Y Y ?_))))))))))
 obtain ⟨ex1, g4, hm⟩ := Yb hm
 refine a2e (r := Rp.str) u27 sz9 Y Y Y Y (o.mono q) g4 ?_
 intro b1 o1 g g5 g6
 have g7 : g = [vs ex1] := g6
 subst g7
 refine a1s (j := 0) ag9 Y Y t g5 Y Y ?_
 obtain ⟨v1, g8, hm⟩ := Yb hm
 refine a3c ent106 Y Y Y Y (b3z _ _ _ g8) (a3d Y Y Y (a0g (a0c ?_)))
 rcases a0f hm with ⟨H, hm⟩ | ⟨H, hm⟩
 refine a0r 19 Y H (a0y Y (a0h (a0a (a0b Y Y Y (a0g (a0c (a1d (a0j (a0v (a0j (a0j (a0v (a0j (a1j Y Y ?_))))))))))))))
 obtain rfl := Yo hm
 exact ⟨_, _, _, Y, t.Yp [] Y Y, Y, Y⟩
 refine a0r 19 Y H (a0q Y (a1c (a0c (a0h (a0a (a0b Y Y Y (a0g (a0c (a1i ?_)))))))))
 intro a g0
 obtain ⟨kont2, hkont2⟩ : ∃ kont2 : Option Bool, kont2 = ( a5e n l1 kont1 mx1 (iadd .i64 i1 1)) := ⟨_, Y⟩
 replace hm : (fun m (s : Int) => a5c n l1 i1 kont2 m s) n 0 = some r := by rw [hkont2]; exact hm
 refine a5p (id := 2) (fun m (s : Int) => a5c n l1 i1 kont2 m s) (fun (y : Unit) => kont2) r (fun (s : Int) a w' => ∃ (I : Frz), Frz.le p I ∧ HS F w [] I [] w' ∧ Has 34 a [(0, .slice i k g), (3, .int .i64 i1), (4, .int .i64 s)]) (fun (y : Unit) a w' => ∃ (J : Frz), Frz.le p J ∧ HS F w [] J [] w' ∧ Has 34 a [(0, .slice i k g), (3, .int .i64 i1)]) (fun _ => Y) ?_ ?_ hm ⟨_, Yf, t.Yp [] Y Y, g0.cut (l := [0, 3, 4]) Y⟩
 clear hm; rintro _u a gp hm ⟨J, g9, ga, g1⟩
 rw [hkont2] at hm
 refine a2g (e := .exit 2) g1 (a1k (a1q (a0c (a0a (a0d Y Y Y (a0u Y Y Y Y Y (a0b Y Y Y (a0g (a0o (fun a ha => ihx1 (iadd .i64 i1 1) a _ hm ?_))))))))))
 exact ⟨_, (q.trans g9), ga.Yp [] Y Y, ha.cut (l := [0, 3]) Y⟩
 clear hm hkont2; intro hk2 mx2 K ihx2
 rintro k1 a gq hm ⟨I, u, R, g2⟩
 simp only [b1m] at hm
 refine a1n g2 (a0h (a0h (a0a (a0d Y Y Y (a0d Y Y Y (a0u Y Y Y Y Y (a0g (a0c ?_))))))))
 rcases a0f hm with ⟨L, hm⟩ | ⟨L, hm⟩
 refine a0r 22 Y L (a0y Y (a1c (a0c (a0h (a1i (a0h (a3j (by kernel_rfl) (by kernel_rfl) R (a1e Y Y Y Y (fun _ _ _ _ => a0d Y Y Y Yn) (a1e Y Y Y Y (fun _ _ _ _ => a0d Y Y Y Yn) ?_)))))))))
 obtain ⟨ex2, gb, hm⟩ := Yb hm
 obtain ⟨b2, o2, gc, gd, ge, N⟩ := a2j (P := Tryz.prog) (r := Rp.str) u27 sz9 ((o.mono q).mono u) gb
 have gf : gc = [vs ex2] := ge
 subst gf
 refine a2o Y Y Y Y N (a1e Y Y Y Y (fun _ _ hleq hq => a1s (j := 0) ag9 Y Y hq (gd.mono hleq) Y Y Yn) (a1e Y Y Y Y (fun _ _ _ _ => a0d Y Y Y Yn) (a1e Y Y Y Y (fun _ _ _ _ => a0d Y Y Y Yn) ?_)))
 obtain ⟨ex3, gg, hm⟩ := Yb hm
 obtain ⟨b3, o3, gh, gi, gj, Q⟩ := a2j (P := Tryz.prog) (r := Rp.str) u27 sz9 ((o.mono q).mono u) gg
 have gk : gh = [vs ex3] := gj
 subst gk
 refine a2o Y Y Y Y Q (a1e Y Y Y Y (fun _ _ hleq hq => a1s (j := 0) ag9 Y Y hq (gi.mono hleq) Y Y Yn) (a1e Y Y Y Y (fun _ _ _ _ => c6c Y Y Y Y Y Yn) (b0t ?_)))
 rintro gr ⟨gs, gl, T⟩
 refine a0c ?_
 rcases a0f hm with ⟨M, hm⟩ | ⟨M, hm⟩
 refine a0r 33 Y M (a0y Y (a0h (a0a (a0b Y Y Y (a0g (a0c (a1d (a0v (a0j (a0j (a0v (a0v (a0j (a0j (a0v (a0j (a1j Y Y ?_)))))))))))))))))
 obtain rfl := Yo hm
 exact ⟨_, _, _, Y, T.Yp [] Y Y, Y, Y⟩
 refine a0r 33 Y M (a0q Y (a1c (a1q (a0c (a0a (a0d Y Y Y (a0u Y Y Y Y Y (a0b Y Y Y (a0g (a0o (fun a ha => ihx2 (iadd .i64 k1 1) a _ hm ?_)))))))))))
 exact ⟨_, (u.trans gl), T.Yp [] Y Y, ha.cut (l := [0, 3, 4]) Y⟩
 refine a0r 22 Y L (a0q Y (a3p (a0x (a0x (fun a ha => hk2 () a _ hm ?_)))))
 exact ⟨_, u, R.Yp [] Y Y, ha.cut (l := [0, 3]) Y⟩
 refine a0r 11 Y G (a0q Y (a3p (a0x (a0x (fun a ha => hk1 () a _ hm ?_)))))
 exact ⟨_, q, t.Yp [] Y Y, ha.cut (l := []) Y⟩
def a4t (n : Nat) (l1 : (List Bs)) (name1 : Bs) (kont1 : Option Int) : Nat → Int → Option Int
 | 0, _ => none
 | mx1 + 1, i1 =>
  bif decide (i1 < (l1.length : Int)) then
   (ix l1 i1).bind fun ex1 =>
   bif ex1 == name1 then
    some i1
   else
    a4t n l1 name1 kont1 mx1 (iadd .i64 i1 1)
  else
   kont1
theorem b0l (n : Nat) (l1 : (List Bs)) (name1 : Bs) (kont1 : Option Int) (mx1 : Nat) (i1 : Int) : a4t n l1 name1 kont1 (mx1 + 1) i1 =
  bif decide (i1 < (l1.length : Int)) then
   (ix l1 i1).bind fun ex1 =>
   bif ex1 == name1 then
    some i1
   else
    a4t n l1 name1 kont1 mx1 (iadd .i64 i1 1)
  else
   kont1 := rfl
def a4x (n : Nat) (l1 : (List Bs)) (name1 : Bs) : Option Int :=
 a4t n l1 name1 (
  some (-1)) n 0
theorem b5k (n : Nat) (l1 : (List Bs)) (name1 : Bs) (r : Int) (hm : a4x n l1 name1 = some r) {w : World} {F : Frz} (hs : Sat F w) {i : Option Addr} {k : Nat} {g : Nat} (q : SlR Rp.str F i k g l1) :
  Calls Tryz.prog 108 #[.slice i k g, vs name1] w fun e w' => e = .returned (.int .i64 r) ∧ w' = w := by
 unfold a4x at hm
 have h := HS.init hs
 refine a1a 19 Tryz.func108 Y Y Y (a0h (a0a (a0b Y Y Y (a0g (a0c (a0h (a0h (a0a (a0b Y Y Y (a0g (a0c (a1i ?_))))))))))))
 intro a t
 obtain ⟨kont1, hkont1⟩ : ∃ kont1 : Option Int, kont1 = ( some (-1)) := ⟨_, Y⟩
 replace hm : (fun m (s : Int) => a4t n l1 name1 kont1 m s) n 0 = some r := by rw [hkont1]; exact hm
 refine a5p (id := 0) (fun m (s : Int) => a4t n l1 name1 kont1 m s) (fun (y : Unit) => kont1) r (fun (s : Int) a w' => w = w' ∧ Has 19 a [(0, .slice i k g), (1, vs name1), (5, .int .i64 s)]) (fun (y : Unit) a w' => w = w' ∧ Has 19 a []) (fun _ => Y) ?_ ?_ hm ⟨Y, t.cut (l := [0, 1, 5]) Y⟩
 clear hm; rintro _u a I hm ⟨rfl, u⟩
 rw [hkont1] at hm
 refine a2g (e := .exit 0) u (a1k (a0c (a0h (a0a (a0b Y Y Y (a0g (a0c (a1d (a1j Y Y ?_)))))))))
 obtain rfl := Yo hm
 exact ⟨Y, Y⟩
 clear hm hkont1; intro hk1 mx1 K ihx1
 rintro i1 a J hm ⟨rfl, v⟩
 simp only [b0l] at hm
 refine a1n v (a0h (a0h (a0a (a0d Y Y Y (a0d Y Y Y (a1x q.len u27 Y Y Y (a0u Y Y Y Y Y (a0g (a0c ?_)))))))))
 rcases a0f hm with ⟨o, hm⟩ | ⟨o, hm⟩
 refine a0r 9 Y o (a0y Y (a1c (a0c (a0h (a1i (a0h (a0a (a0d Y Y Y (a0d Y Y Y ?_)))))))))
 obtain ⟨ex1, x, hm⟩ := Yb hm
 refine a2e (r := Rp.str) u27 sz9 Y Y Y Y q x ?_
 intro b1 o1 g z G
 have H : g = [vs ex1] := G
 subst H
 refine a1s (j := 0) ag9 Y Y h z Y Y (a0d Y Y Y (c6c Y Y Y Y Y (a0g (a0c ?_))))
 rcases a0f hm with ⟨p, hm⟩ | ⟨p, hm⟩
 refine a0r 17 Y p (a0y Y (a0h (a0a (a0d Y Y Y (a0b Y Y Y (a0g (a0c (a1d (a0v (a0j (a0j (a0v (a0j (a1j Y Y ?_))))))))))))))
 obtain rfl := Yo hm
 exact ⟨Y, Y⟩
 refine a0r 17 Y p (a0q Y (a1c (a1q (a0c (a0a (a0d Y Y Y (a0u Y Y Y Y Y (a0b Y Y Y (a0g (a0o (fun a ha => ihx1 (iadd .i64 i1 1) a _ hm ?_)))))))))))
 exact ⟨Y, ha.cut (l := [0, 1, 5]) Y⟩
 refine a0r 9 Y o (a0q Y (a3p (a0x (a0x (fun a ha => hk1 () a _ hm ?_)))))
 exact ⟨Y, ha.cut (l := []) Y⟩
def a8i (_n : Nat) (ax1 : Int) (b1 : Int) : Option Int :=
 (bif ax1 == 2 then
  some true
 else
  some (b1 == 2)).bind fun v1 =>
 bif v1 then
  some 2
 else
  some 1
theorem b7r (n : Nat) (ax1 : Int) (b1 : Int) (r : Int) (hm : a8i n ax1 b1 = some r) {w : World}  :
  Calls Tryz.prog 139 #[.int .i64 ax1, .int .i64 b1] w fun e w' => e = .returned (.int .i64 r) ∧ w' = w := by
 unfold a8i at hm
 refine a1a 11 Tryz.func139 Y Y Y (a0h (a0a (a0b Y Y Y (a0g (a0c (a0h (a0h (a0a (a0d Y Y Y (a0u Y Y Y Y Y (a0d Y Y Y ?_)))))))))))
 obtain ⟨v1, g, hm⟩ := Yb hm
 refine a1z 3 (fun a w' => w = w' ∧ Has 11 a [(10, .bool v1)]) ?_ ?_
 rintro a k ⟨rfl, j⟩
 refine a0z j (a0g (a0c ?_))
 rcases a0f hm with ⟨h, hm⟩ | ⟨h, hm⟩
 refine a0r 10 Y h (a0y Y (a0h (a0a (a0b Y Y Y (a0g (a0c (a1d (a0j (a1j Y Y ?_)))))))))
 obtain rfl := Yo hm
 exact ⟨Y, Y⟩
 refine a0r 10 Y h (a0q Y (a1c (a0c (a0h (a0a (a0b Y Y Y (a0g (a0c (a1d (a1j Y Y ?_))))))))))
 obtain rfl := Yo hm
 exact ⟨Y, Y⟩
 clear hm
 rcases a0f g with ⟨i, g⟩ | ⟨i, g⟩
 refine a1g 7 Y i (a0t Y (by decide) Y (a0t Y (by decide) Y (a0n Y Y Y Y (a0g (a0o (fun a ha => ?_))))))
 cases g
 exact ⟨Y, ha.cut (l := [10]) Y⟩
 refine a1g 7 Y i (a0d Y Y Y (a0u Y Y Y Y Y (a0k Y Y Y Y (a0g (a0o (fun a ha => ?_))))))
 cases g
 exact ⟨Y, ha.cut (l := [10]) Y⟩
theorem ent139 : Ent Tryz.prog 139 := fun _ _ => by kernel_rfl
def a3t (n : Nat) (op1 : Int) (l1 : (List Int)) : Option (Int × Bool) :=
 bif op1 == 14 then
  (ix l1 0).bind fun ex1 =>
  some (0, ex1 == 0)
 else
  (bif op1 == 15 then
   some true
  else
   some (op1 == 16)).bind fun v1 =>
  bif v1 then
   (ix l1 0).bind fun ex2 =>
   (bif ex2 == 0 then
    (ix l1 1).bind fun ex3 =>
    some (ex3 == 0)
   else
    some false).bind fun v2 =>
   some (0, v2)
  else
   (bif op1 == 12 then
    some true
   else
    some (op1 == 13)).bind fun v3 =>
   bif v3 then
    (ix l1 0).bind fun ex4 =>
    (bif ex4 == 1 then
     (ix l1 1).bind fun ex5 =>
     some (ex5 == 1)
    else
     some false).bind fun v4 =>
    some (0, v4)
   else
    bif op1 == 11 then
     (ix l1 1).bind fun ex6 =>
     (ix l1 2).bind fun ex7 =>
     (a8i n ex6 ex7).bind fun v5 =>
     (ix l1 0).bind fun ex8 =>
     (bif ex8 == 0 then
      (ix l1 1).bind fun ex10 =>
      some (ex10 != 0)
     else
      some false).bind fun v6 =>
     (bif v6 then
      (ix l1 2).bind fun ex9 =>
      some (ex9 != 0)
     else
      some false).bind fun v7 =>
     some (v5, v7)
    else
     (ix l1 0).bind fun ex11 =>
     (bif ex11 != 0 then
      (ix l1 1).bind fun ex16 =>
      some (ex16 != 0)
     else
      some false).bind fun v8 =>
     (bif op1 == 7 then
      (bif v8 then
       (ix l1 0).bind fun ex14 =>
       (bif ex14 == 1 then
        some true
       else
        (ix l1 1).bind fun ex15 =>
        some (ex15 == 1)).bind fun v11 =>
       some v11
      else
       some false).bind fun v10 =>
      some v10
     else
      some v8).bind fun numbers1 =>
     (ix l1 0).bind fun ex12 =>
     (ix l1 1).bind fun ex13 =>
     (a8i n ex12 ex13).bind fun v9 =>
     some (v9, numbers1)
theorem b8n (n : Nat) (op1 : Int) (l1 : (List Int)) (r : (Int × Bool)) (hm : a3t n op1 l1 = some r) {w : World} {F : Frz} (hs : Sat F w) {t : Option Addr} {u : Nat} {k : Nat} (g : SlR (Rp.int .i64) F t u k l1) :
  Calls Tryz.prog 109 #[.int .i64 op1, .slice t u k] w fun e w' => ∃ v F' O', e = .returned v ∧ HS F w [] F' O' w' ∧ (v = .tuple #[.int .i64 r.1, .bool r.2] ∧ O' = []) := by
 unfold a3t at hm
 have h := HS.init hs
 refine a1a 98 Tryz.func109 Y Y Y (a0h (a0a (a0b Y Y Y (a0b Y Y Y (a0g (a0c (a0h (a0h (a0a (a0d Y Y Y (a0g (a0c (a1i (a0h (a0a (a0u Y Y Y Y Y (a0b Y Y Y (a0g (a0c ?_)))))))))))))))))))
 rcases a0f hm with ⟨T, hm⟩ | ⟨T, hm⟩
 refine a0r 8 Y T (a0y Y (a0h (a3j (by kernel_rfl) (by kernel_rfl) h (a1e Y Y Y Y (fun _ _ _ _ => a0d Y Y Y Yn) ?_))))
 obtain ⟨ex1, ho, hm⟩ := Yb hm
 obtain ⟨b1, o1, k, hp, hr, g4⟩ := a2j (P := Tryz.prog) (r := (Rp.int .i64)) u28 sz3 g ho
 have ht : k = [.int .i64 ex1] := hr
 subst ht
 refine a2o Y Y Y Y g4 (a1e Y Y Y Y (fun _ _ hleq hq => a1s (j := 0) ag3 Y Y hq (hp.mono hleq) Y Y Yn) (a1e Y Y Y Y (fun _ _ _ _ => a0u Y Y Y Y Y Yn) (a1e Y Y Y Y (fun _ _ _ _ => a0b Y Y Y Yn) (a1e Y Y Y Y (fun _ _ _ _ => a0b Y Y Y Yn) (b0t ?_)))))
 rintro je ⟨jf, jg, hu⟩
 refine a0c (a1d (a0v (a0j (a1o (vl := [.int .i64 0, .bool (ex1 == 0)]) Y ⟨a1r Y, a1r Y, trivial⟩ (by simp) ?_))))
 obtain rfl := Yo hm
 exact ⟨_, _, _, Y, hu.Yp [] Y Y, Y, Y⟩
 refine a0r 8 Y T (a0q Y (a0h (a0h (a0a (a0u Y Y Y Y Y (a0b Y Y Y (a0g (a0c ?_))))))))
 obtain ⟨v1, z, hm⟩ := Yb hm
 refine a9a (fun a w' => w = w' ∧ Has 98 a [(0, .int .i64 op1), (1, .slice t u k), (7, .int .i64 op1), (14, .bool v1)]) ?_ ?_
 rintro a jh ⟨rfl, ge⟩
 refine a1n ge ?_
 rcases a0f hm with ⟨U, hm⟩ | ⟨U, hm⟩
 refine a0r 14 Y U (a0y Y (a0h (a3j (by kernel_rfl) (by kernel_rfl) h (a1e Y Y Y Y (fun _ _ _ _ => a0d Y Y Y Yn) ?_))))
 obtain ⟨ex2, hv, hm⟩ := Yb hm
 obtain ⟨b2, o2, hw, hx, hy, g5⟩ := a2j (P := Tryz.prog) (r := (Rp.int .i64)) u28 sz3 g hv
 have hz : hw = [.int .i64 ex2] := hy
 subst hz
 refine a2o Y Y Y Y g5 (a1e Y Y Y Y (fun _ _ hleq hq => a1s (j := 0) ag3 Y Y hq (hx.mono hleq) Y Y Yn) (a1e Y Y Y Y (fun _ _ _ _ => a0u Y Y Y Y Y Yn) (a1e Y Y Y Y (fun _ _ _ _ => a0d Y Y Y Yn) ?_)))
 obtain ⟨v2, x, hm⟩ := Yb hm
 refine b8v 5 (fun a => Has 98 a [(26, .bool v2)]) ?_ ?_
 intro a gf
 refine a9e gf (a1e Y Y Y Y (fun _ _ _ _ => a0b Y Y Y Yn) (a1e Y Y Y Y (fun _ _ _ _ => a0b Y Y Y Yn) (b0t ?_)))
 rintro ji ⟨jj, jk, i0⟩
 refine a0c (a1d (a0v (a0j (a1o (vl := [.int .i64 0, .bool v2]) Y ⟨a1r Y, a1r Y, trivial⟩ (by simp) ?_))))
 obtain rfl := Yo hm
 exact ⟨_, _, _, Y, i0.Yp [] Y Y, Y, Y⟩
 clear hm
 rcases a0f x with ⟨V, x⟩ | ⟨V, x⟩
 refine b1r 21 Y V (a1e Y Y Y Y (fun _ _ _ _ => a0d Y Y Y Yn) ?_)
 obtain ⟨ex3, i1, x⟩ := Yb x
 obtain ⟨b3, o3, i2, i3, i4, g6⟩ := a2j (P := Tryz.prog) (r := (Rp.int .i64)) u28 sz3 g i1
 have i5 : i2 = [.int .i64 ex3] := i4
 subst i5
 refine a2o Y Y Y Y g6 (a1e Y Y Y Y (fun _ _ hleq hq => a1s (j := 0) ag3 Y Y hq (i3.mono hleq) Y Y Yn) (a1e Y Y Y Y (fun _ _ _ _ => a0u Y Y Y Y Y Yn) (a1e Y Y Y Y (fun _ _ _ _ => a0n Y Y Y Y Yn) (b1w (fun a ha => ?_)))))
 cases x
 exact ha.cut (l := [26]) Y
 refine b1r 21 Y V (a3g Y Y Y (a3g Y Y Y (a3g Y Y Y (a3g Y Y Y (a1e Y Y Y Y (fun _ _ _ _ => a0k Y Y Y Y Yn) (b1w (fun a ha => ?_)))))))
 cases x
 exact ha.cut (l := [26]) Y
 refine a0r 14 Y U (a0q Y (a0h (a0h (a0a (a0u Y Y Y Y Y (a0b Y Y Y (a0g (a0c ?_))))))))
 obtain ⟨v3, G, hm⟩ := Yb hm
 refine a9a (fun a w' => w = w' ∧ Has 98 a [(0, .int .i64 op1), (1, .slice t u k), (7, .int .i64 op1), (27, .bool v3)]) ?_ ?_
 rintro a jl ⟨rfl, gg⟩
 refine a1n gg ?_
 rcases a0f hm with ⟨Z, hm⟩ | ⟨Z, hm⟩
 refine a0r 27 Y Z (a0y Y (a0h (a3j (by kernel_rfl) (by kernel_rfl) h (a1e Y Y Y Y (fun _ _ _ _ => a0d Y Y Y Yn) ?_))))
 obtain ⟨ex4, i6, hm⟩ := Yb hm
 obtain ⟨b4, o4, i7, i8, i9, g7⟩ := a2j (P := Tryz.prog) (r := (Rp.int .i64)) u28 sz3 g i6
 have ia : i7 = [.int .i64 ex4] := i9
 subst ia
 refine a2o Y Y Y Y g7 (a1e Y Y Y Y (fun _ _ hleq hq => a1s (j := 0) ag3 Y Y hq (i8.mono hleq) Y Y Yn) (a1e Y Y Y Y (fun _ _ _ _ => a0u Y Y Y Y Y Yn) (a1e Y Y Y Y (fun _ _ _ _ => a0d Y Y Y Yn) ?_)))
 obtain ⟨v4, y, hm⟩ := Yb hm
 refine b8v 5 (fun a => Has 98 a [(39, .bool v4)]) ?_ ?_
 intro a gh
 refine a9e gh (a1e Y Y Y Y (fun _ _ _ _ => a0b Y Y Y Yn) (a1e Y Y Y Y (fun _ _ _ _ => a0b Y Y Y Yn) (b0t ?_)))
 rintro jm ⟨jn, jo, ib⟩
 refine a0c (a1d (a0v (a0j (a1o (vl := [.int .i64 0, .bool v4]) Y ⟨a1r Y, a1r Y, trivial⟩ (by simp) ?_))))
 obtain rfl := Yo hm
 exact ⟨_, _, _, Y, ib.Yp [] Y Y, Y, Y⟩
 clear hm
 rcases a0f y with ⟨g0, y⟩ | ⟨g0, y⟩
 refine b1r 34 Y g0 (a1e Y Y Y Y (fun _ _ _ _ => a0d Y Y Y Yn) ?_)
 obtain ⟨ex5, ic, y⟩ := Yb y
 obtain ⟨b5, o5, id, ie, ig, g8⟩ := a2j (P := Tryz.prog) (r := (Rp.int .i64)) u28 sz3 g ic
 have ih : id = [.int .i64 ex5] := ig
 subst ih
 refine a2o Y Y Y Y g8 (a1e Y Y Y Y (fun _ _ hleq hq => a1s (j := 0) ag3 Y Y hq (ie.mono hleq) Y Y Yn) (a1e Y Y Y Y (fun _ _ _ _ => a0u Y Y Y Y Y Yn) (a1e Y Y Y Y (fun _ _ _ _ => a0n Y Y Y Y Yn) (b1w (fun a ha => ?_)))))
 cases y
 exact ha.cut (l := [39]) Y
 refine b1r 34 Y g0 (a3g Y Y Y (a3g Y Y Y (a3g Y Y Y (a3g Y Y Y (a1e Y Y Y Y (fun _ _ _ _ => a0k Y Y Y Y Yn) (b1w (fun a ha => ?_)))))))
 cases y
 exact ha.cut (l := [39]) Y
 refine a0r 27 Y Z (a0q Y (a0h (a0a (a0u Y Y Y Y Y (a0b Y Y Y (a0g (a0c ?_)))))))
 rcases a0f hm with ⟨H, hm⟩ | ⟨H, hm⟩
 refine a0r 40 Y H (a0y Y (a0h (a3j (by kernel_rfl) (by kernel_rfl) h (a1e Y Y Y Y (fun _ _ _ _ => a0d Y Y Y Yn) ?_))))
 obtain ⟨ex6, ii, hm⟩ := Yb hm
 obtain ⟨b6, o6, ij, ik, il, g9⟩ := a2j (P := Tryz.prog) (r := (Rp.int .i64)) u28 sz3 g ii
 have im : ij = [.int .i64 ex6] := il
 subst im
 refine a2o Y Y Y Y g9 (a1e Y Y Y Y (fun _ _ hleq hq => a1s (j := 0) ag3 Y Y hq (ik.mono hleq) Y Y Yn) (a1e Y Y Y Y (fun _ _ _ _ => a0d Y Y Y Yn) ?_))
 obtain ⟨ex7, io, hm⟩ := Yb hm
 obtain ⟨b7, o7, ip, iq, ir, ga⟩ := a2j (P := Tryz.prog) (r := (Rp.int .i64)) u28 sz3 g io
 have it : ip = [.int .i64 ex7] := ir
 subst it
 refine a2o Y Y Y Y ga (a1e Y Y Y Y (fun _ _ hleq hq => a1s (j := 0) ag3 Y Y hq (iq.mono hleq) Y Y Yn) ?_)
 obtain ⟨v5, iu, hm⟩ := Yb hm
 refine a9c ent139 Y Y Y Y (fun _ _ hleq hq => b7r _ _ _ _ iu) (a1e Y Y Y Y (fun _ _ _ _ => a0d Y Y Y Yn) ?_)
 obtain ⟨ex8, iv, hm⟩ := Yb hm
 obtain ⟨b8, o8, iw, ix, iy, gb⟩ := a2j (P := Tryz.prog) (r := (Rp.int .i64)) u28 sz3 g iv
 have iz : iw = [.int .i64 ex8] := iy
 subst iz
 refine a2o Y Y Y Y gb (a1e Y Y Y Y (fun _ _ hleq hq => a1s (j := 0) ag3 Y Y hq (ix.mono hleq) Y Y Yn) (a1e Y Y Y Y (fun _ _ _ _ => a0u Y Y Y Y Y Yn) (a1e Y Y Y Y (fun _ _ _ _ => a0d Y Y Y Yn) ?_)))
 obtain ⟨v6, o, hm⟩ := Yb hm
 refine b8v 5 (fun a => Has 98 a [(1, .slice t u k), (48, .int .i64 v5), (58, .bool v6)]) ?_ ?_
 intro a gi
 refine a9e gi (a1e Y Y Y Y (fun _ _ _ _ => a0d Y Y Y Yn) ?_)
 obtain ⟨v7, p, hm⟩ := Yb hm
 refine b8v 5 (fun a => Has 98 a [(48, .int .i64 v5), (64, .bool v7)]) ?_ ?_
 intro a gj
 refine a9e gj (a1e Y Y Y Y (fun _ _ _ _ => a0b Y Y Y Yn) (a1e Y Y Y Y (fun _ _ _ _ => a0b Y Y Y Yn) (b0t ?_)))
 rintro j8 ⟨jp, jq, j0⟩
 refine a0c (a1d (a0v (a0j (a1o (vl := [.int .i64 v5, .bool v7]) Y ⟨a1r Y, a1r Y, trivial⟩ (by simp) ?_))))
 obtain rfl := Yo hm
 exact ⟨_, _, _, Y, j0.Yp [] Y Y, Y, Y⟩
 clear hm
 rcases a0f p with ⟨I, p⟩ | ⟨I, p⟩
 refine b1r 59 Y I (a1e Y Y Y Y (fun _ _ _ _ => a0d Y Y Y Yn) ?_)
 obtain ⟨ex9, j1, p⟩ := Yb p
 obtain ⟨b9, o9, j2, j3, j4, gc⟩ := a2j (P := Tryz.prog) (r := (Rp.int .i64)) u28 sz3 g j1
 have j5 : j2 = [.int .i64 ex9] := j4
 subst j5
 refine a2o Y Y Y Y gc (a1e Y Y Y Y (fun _ _ hleq hq => a1s (j := 0) ag3 Y Y hq (j3.mono hleq) Y Y Yn) (a1e Y Y Y Y (fun _ _ _ _ => a0u Y Y Y Y Y Yn) (a1e Y Y Y Y (fun _ _ _ _ => a0n Y Y Y Y Yn) (b1w (fun a ha => ?_)))))
 cases p
 exact ha.cut (l := [48, 64]) Y
 refine b1r 59 Y I (a3g Y Y Y (a3g Y Y Y (a3g Y Y Y (a3g Y Y Y (a1e Y Y Y Y (fun _ _ _ _ => a0k Y Y Y Y Yn) (b1w (fun a ha => ?_)))))))
 cases p
 exact ha.cut (l := [48, 64]) Y
 clear hm
 rcases a0f o with ⟨J, o⟩ | ⟨J, o⟩
 refine b1r 53 Y J (a1e Y Y Y Y (fun _ _ _ _ => a0d Y Y Y Yn) ?_)
 obtain ⟨ex10, gk, o⟩ := Yb o
 obtain ⟨b10, o10, gl, gm, gn, g1⟩ := a2j (P := Tryz.prog) (r := (Rp.int .i64)) u28 sz3 g gk
 have go : gl = [.int .i64 ex10] := gn
 subst go
 refine a2o Y Y Y Y g1 (a1e Y Y Y Y (fun _ _ hleq hq => a1s (j := 0) ag3 Y Y hq (gm.mono hleq) Y Y Yn) (a1e Y Y Y Y (fun _ _ _ _ => a0u Y Y Y Y Y Yn) (a1e Y Y Y Y (fun _ _ _ _ => a0n Y Y Y Y Yn) (b1w (fun a ha => ?_)))))
 cases o
 exact ha.cut (l := [1, 48, 58]) Y
 refine b1r 53 Y J (a3g Y Y Y (a3g Y Y Y (a3g Y Y Y (a3g Y Y Y (a1e Y Y Y Y (fun _ _ _ _ => a0k Y Y Y Y Yn) (b1w (fun a ha => ?_)))))))
 cases o
 exact ha.cut (l := [1, 48, 58]) Y
 refine a0r 40 Y H (a0q Y (a1c (a1q (a0c (a0h (a0a (a0d Y Y Y ?_)))))))
 obtain ⟨ex11, gp, hm⟩ := Yb hm
 refine a2e (r := (Rp.int .i64)) u28 sz3 Y Y Y Y g gp ?_
 intro b11 o11 gq gr gs
 have gt : gq = [.int .i64 ex11] := gs
 subst gt
 refine a1s (j := 0) ag3 Y Y h gr Y Y (a0u Y Y Y Y Y (a0d Y Y Y ?_))
 obtain ⟨v8, q, hm⟩ := Yb hm
 refine a1z 5 (fun a w' => w = w' ∧ Has 98 a [(0, .int .i64 op1), (1, .slice t u k), (74, .bool v8)]) ?_ ?_
 rintro a j9 ⟨rfl, gu⟩
 refine a0z gu (a0b Y Y Y (a0g (a0c (a0h (a0h (a0a (a0d Y Y Y (a0u Y Y Y Y Y (a0g (a0c ?_))))))))))
 obtain ⟨numbers1, m, hm⟩ := Yb hm
 refine a9a (fun a w' => w = w' ∧ Has 98 a [(1, .slice t u k), (6, .bool numbers1)]) ?_ ?_
 rintro a ja ⟨rfl, gv⟩
 refine a1n gv (a0h (a3j (by kernel_rfl) (by kernel_rfl) h (a1e Y Y Y Y (fun _ _ _ _ => a0d Y Y Y Yn) ?_)))
 obtain ⟨ex12, gw, hm⟩ := Yb hm
 obtain ⟨b12, o12, gx, gy, gz, g2⟩ := a2j (P := Tryz.prog) (r := (Rp.int .i64)) u28 sz3 g gw
 have h0 : gx = [.int .i64 ex12] := gz
 subst h0
 refine a2o Y Y Y Y g2 (a1e Y Y Y Y (fun _ _ hleq hq => a1s (j := 0) ag3 Y Y hq (gy.mono hleq) Y Y Yn) (a1e Y Y Y Y (fun _ _ _ _ => a0d Y Y Y Yn) ?_))
 obtain ⟨ex13, h1, hm⟩ := Yb hm
 obtain ⟨b13, o13, h2, h3, h4, g3⟩ := a2j (P := Tryz.prog) (r := (Rp.int .i64)) u28 sz3 g h1
 have h5 : h2 = [.int .i64 ex13] := h4
 subst h5
 refine a2o Y Y Y Y g3 (a1e Y Y Y Y (fun _ _ hleq hq => a1s (j := 0) ag3 Y Y hq (h3.mono hleq) Y Y Yn) ?_)
 obtain ⟨v9, j6, hm⟩ := Yb hm
 refine a9c ent139 Y Y Y Y (fun _ _ hleq hq => b7r _ _ _ _ j6) (a1e Y Y Y Y (fun _ _ _ _ => a0d Y Y Y Yn) (a1e Y Y Y Y (fun _ _ _ _ => a0b Y Y Y Yn) (a1e Y Y Y Y (fun _ _ _ _ => a0b Y Y Y Yn) (b0t ?_))))
 rintro jb ⟨jr, js, j7⟩
 refine a0c (a1d (a1o (vl := [.int .i64 v9, .bool numbers1]) Y ⟨a1r Y, a1r Y, trivial⟩ (by simp) ?_))
 obtain rfl := Yo hm
 exact ⟨_, _, _, Y, j7.Yp [] Y Y, Y, Y⟩
 clear hm
 rcases a0f m with ⟨K, m⟩ | ⟨K, m⟩
 refine a0r 76 Y K (a0y Y (a0a (a0d Y Y Y (a0d Y Y Y ?_))))
 obtain ⟨v10, i, m⟩ := Yb m
 refine a1z 11 (fun a w' => w = w' ∧ Has 98 a [(1, .slice t u k), (89, .bool v10)]) ?_ ?_
 rintro a jc ⟨rfl, h6⟩
 refine a0z h6 (a0b Y Y Y (a0g (a0o (fun a ha => ?_))))
 cases m
 exact ⟨Y, ha.cut (l := [1, 6]) Y⟩
 clear m
 rcases a0f i with ⟨L, i⟩ | ⟨L, i⟩
 refine a1g 78 Y L (a0d Y Y Y ?_)
 obtain ⟨ex14, h7, i⟩ := Yb i
 refine a2e (r := (Rp.int .i64)) u28 sz3 Y Y Y Y g h7 ?_
 intro b14 o14 h8 h9 hb
 have hc : h8 = [.int .i64 ex14] := hb
 subst hc
 refine a1s (j := 0) ag3 Y Y h h9 Y Y (a0u Y Y Y Y Y (a0d Y Y Y ?_))
 obtain ⟨v11, s, i⟩ := Yb i
 refine a1z 5 (fun a w' => w = w' ∧ Has 98 a [(1, .slice t u k), (78, .bool true), (88, .bool v11)]) ?_ ?_
 rintro a jd ⟨rfl, gd⟩
 refine a0z gd (a0n Y Y Y Y (a0g (a0o (fun a ha => ?_))))
 cases i
 exact ⟨Y, ha.cut (l := [1, 89]) Y⟩
 clear i
 rcases a0f s with ⟨M, s⟩ | ⟨M, s⟩
 refine a1g 83 Y M (a0t Y (by decide) Y (a0t Y (by decide) Y (a0t Y (by decide) Y (a0t Y (by decide) Y (a0n Y Y Y Y (a0g (a0o (fun a ha => ?_))))))))
 cases s
 exact ⟨Y, ha.cut (l := [1, 78, 88]) Y⟩
 refine a1g 83 Y M (a0d Y Y Y ?_)
 obtain ⟨ex15, hd, s⟩ := Yb s
 refine a2e (r := (Rp.int .i64)) u28 sz3 Y Y Y Y g hd ?_
 intro b15 o15 he hf hg
 have hh : he = [.int .i64 ex15] := hg
 subst hh
 refine a1s (j := 0) ag3 Y Y h hf Y Y (a0u Y Y Y Y Y (a0k Y Y Y Y (a0g (a0o (fun a ha => ?_)))))
 cases s
 exact ⟨Y, ha.cut (l := [1, 78, 88]) Y⟩
 refine a1g 78 Y L (a0t Y (by decide) Y (a0t Y (by decide) Y (a0t Y (by decide) Y (a0t Y (by decide) Y (a0t Y (by decide) Y (a0t Y (by decide) Y (a0t Y (by decide) Y (a0t Y (by decide) Y (a0t Y (by decide) Y (a0t Y (by decide) Y (a0k Y Y Y Y (a0g (a0o (fun a ha => ?_))))))))))))))
 cases i
 exact ⟨Y, ha.cut (l := [1, 89]) Y⟩
 refine a0r 76 Y K (a0q Y (a1c (a0o (fun a ha => ?_))))
 cases m
 exact ⟨Y, ha.cut (l := [1, 6]) Y⟩
 clear hm
 rcases a0f q with ⟨N, q⟩ | ⟨N, q⟩
 refine a1g 69 Y N (a0d Y Y Y ?_)
 obtain ⟨ex16, hi, q⟩ := Yb q
 refine a2e (r := (Rp.int .i64)) u28 sz3 Y Y Y Y g hi ?_
 intro b16 o16 hj hk hl
 have hn : hj = [.int .i64 ex16] := hl
 subst hn
 refine a1s (j := 0) ag3 Y Y h hk Y Y (a0u Y Y Y Y Y (a0n Y Y Y Y (a0g (a0o (fun a ha => ?_)))))
 cases q
 exact ⟨Y, ha.cut (l := [0, 1, 74]) Y⟩
 refine a1g 69 Y N (a0t Y (by decide) Y (a0t Y (by decide) Y (a0t Y (by decide) Y (a0t Y (by decide) Y (a0k Y Y Y Y (a0g (a0o (fun a ha => ?_))))))))
 cases q
 exact ⟨Y, ha.cut (l := [0, 1, 74]) Y⟩
 clear hm
 rcases a0f G with ⟨Q, G⟩ | ⟨Q, G⟩
 refine a0r 27 Y Q (a0y Y (a1c (a0o (fun a ha => ?_))))
 cases G
 exact ⟨Y, ha.cut (l := [0, 1, 7, 27]) Y⟩
 refine a0r 27 Y Q (a0q Y (a0a (a0u Y Y Y Y Y (a0b Y Y Y (a0g (a0o (fun a ha => ?_)))))))
 cases G
 exact ⟨Y, ha.cut (l := [0, 1, 7, 27]) Y⟩
 clear hm
 rcases a0f z with ⟨R, z⟩ | ⟨R, z⟩
 refine a0r 14 Y R (a0y Y (a1c (a0o (fun a ha => ?_))))
 cases z
 exact ⟨Y, ha.cut (l := [0, 1, 7, 14]) Y⟩
 refine a0r 14 Y R (a0q Y (a0a (a0u Y Y Y Y Y (a0b Y Y Y (a0g (a0o (fun a ha => ?_)))))))
 cases z
 exact ⟨Y, ha.cut (l := [0, 1, 7, 14]) Y⟩
theorem ent109 : Ent Tryz.prog 109 := fun _ _ => by kernel_rfl
theorem ent108 : Ent Tryz.prog 108 := fun _ _ => by kernel_rfl
theorem ent73 : Ent Tryz.prog 73 := fun _ _ => by kernel_rfl
def a3z (n : Nat) (rec_ref35_typed : Expr → (List Bs) → Option (Int × Int)) (x1 : Expr) (names1 : (List Bs)) (kont1 : (List Int) → Option (Int × Int)) : Nat → Int → (List Int) → Option (Int × Int)
 | 0, _, _ => none
 | mx1 + 1, i1, l1 =>
  bif decide (i1 < (x1.Args.length : Int)) then
   (ix x1.Args i1).bind fun ex4 =>
   (rec_ref35_typed ex4 names1).bind fun v7 =>
   bif v7.2 != 0 then
    some (0, v7.2)
   else
    (app 8 l1 [v7.1]).bind fun l3 =>
    a3z n rec_ref35_typed x1 names1 kont1 mx1 (iadd .i64 i1 1) l3
  else
   kont1 l1
theorem a9d (n : Nat) (rec_ref35_typed : Expr → (List Bs) → Option (Int × Int)) (x1 : Expr) (names1 : (List Bs)) (kont1 : (List Int) → Option (Int × Int)) (mx1 : Nat) (i1 : Int) (l1 : List Int) : a3z n rec_ref35_typed x1 names1 kont1 (mx1 + 1) i1 l1 =
  bif decide (i1 < (x1.Args.length : Int)) then
   (ix x1.Args i1).bind fun ex4 =>
   (rec_ref35_typed ex4 names1).bind fun v7 =>
   bif v7.2 != 0 then
    some (0, v7.2)
   else
    (app 8 l1 [v7.1]).bind fun l3 =>
    a3z n rec_ref35_typed x1 names1 kont1 mx1 (iadd .i64 i1 1) l3
  else
   kont1 l1 := rfl
def ref35_typed : Nat → Expr → (List Bs) → Option (Int × Int)
 | 0, _, _ => none
 | n + 1, x1, names1 =>
  a3z n (ref35_typed n) x1 names1 (fun (l2 : List Int) =>
   (bif x1.Op == 1 then
    some true
   else
    some (x1.Op == 4)).bind fun v1 =>
   (bif v1 then
    (a4x n names1 x1.Name).bind fun v6 =>
    some (decide (v6 < 0))
   else
    some false).bind fun v2 =>
   bif v2 then
    some (0, 11)
   else
    bif x1.Op == 4 then
     some (2, 0)
    else
     bif (l2.length : Int) == 0 then
      some (1, 0)
     else
      bif x1.Op == 8 then
       (ix x1.Args 1).bind fun ex1 =>
       (bif ex1.Op == 0 then
        (ix x1.Args 1).bind fun ex3 =>
        some (ex3.N == 0)
       else
        some false).bind fun v3 =>
       bif v3 then
        some (0, 14)
       else
        (ix x1.Args 1).bind fun ex2 =>
        bif ex2.Op != 0 then
         some (0, 13)
        else
         (a3t n x1.Op l2).bind fun v4 =>
         bif !v4.2 then
          some (0, 13)
         else
          some (v4.1, 0)
      else
       (a3t n x1.Op l2).bind fun v5 =>
       bif !v5.2 then
        some (0, 13)
       else
        some (v5.1, 0)) n 0 []
theorem c3n (n : Nat) (x1 : Expr) (names1 : (List Bs)) : ref35_typed (n + 1) x1 names1 =
  a3z n (ref35_typed n) x1 names1 (fun (l2 : List Int) =>
   (bif x1.Op == 1 then
    some true
   else
    some (x1.Op == 4)).bind fun v1 =>
   (bif v1 then
    (a4x n names1 x1.Name).bind fun v6 =>
    some (decide (v6 < 0))
   else
    some false).bind fun v2 =>
   bif v2 then
    some (0, 11)
   else
    bif x1.Op == 4 then
     some (2, 0)
    else
     bif (l2.length : Int) == 0 then
      some (1, 0)
     else
      bif x1.Op == 8 then
       (ix x1.Args 1).bind fun ex1 =>
       (bif ex1.Op == 0 then
        (ix x1.Args 1).bind fun ex3 =>
        some (ex3.N == 0)
       else
        some false).bind fun v3 =>
       bif v3 then
        some (0, 14)
       else
        (ix x1.Args 1).bind fun ex2 =>
        bif ex2.Op != 0 then
         some (0, 13)
        else
         (a3t n x1.Op l2).bind fun v4 =>
         bif !v4.2 then
          some (0, 13)
         else
          some (v4.1, 0)
      else
       (a3t n x1.Op l2).bind fun v5 =>
       bif !v5.2 then
        some (0, 13)
       else
        some (v5.1, 0)) n 0 [] := rfl
theorem c0q (n : Nat) : (∀ (x1 : Expr) (names1 : (List Bs)) (r : (Int × Int)) (_ : ref35_typed n x1 names1 = some r) {w : World} {F : Frz} (_ : Sat F w) {L : Option Addr} {M : Nat} {x : Nat} {z : Option Addr} {G : Nat} {k : Nat} (_ : SlR rp_Expr F L M x x1.Args) (_ : SlR Rp.str F z G k names1), Calls Tryz.prog 73 #[.agg #[.int .i64 x1.Op, .int .i64 x1.N, vs x1.Name, .slice L M x], .slice z G k] w fun e w' => ∃ v F' O', e = .returned v ∧ HS F w [] F' O' w' ∧ (v = .tuple #[.int .i64 r.1, .int .i64 r.2] ∧ O' = [])) := by
 induction n with
 | zero =>
  intro x1 names1 r hm
  exact absurd (show (none : Option (Int × Int)) = some r from hm) (by simp)
 | succ n ih =>
  intro x1 names1 r hm w F hs L M x z G k Q gh
  rw [c3n] at hm
  have h := HS.init hs
  refine a1a 91 Tryz.func73 Y Y Y (a0h (a0a (a2i Y Y Y Y h ?_)))
  intro b1 hv gx
  refine a0b Y Y Y (a0b Y Y Y (a0g (a0c (a0h (a0a (a1v (e := 3) (cs := []) (q := 1) Y Y gx Y (fun _ => by kernel_rfl) Y Y ?_))))))
  intro b2 hw gy
  refine a0b Y Y Y (a0g (a0c (a0h (a0h (a0a (a0b Y Y Y (a0g (a0c (a1i ?_)))))))))
  intro a gp
  obtain ⟨kont1, hkont1⟩ : ∃ kont1 : (List Int) → Option (Int × Int), kont1 = (fun (l2 : List Int) => (bif x1.Op == 1 then some true else some (x1.Op == 4)).bind fun v1 => (bif v1 then (a4x n names1 x1.Name).bind fun v6 => some (decide (v6 < 0)) else some false).bind fun v2 => bif v2 then some (0, 11) else bif x1.Op == 4 then some (2, 0) else bif (l2.length : Int) == 0 then some (1, 0) else bif x1.Op == 8 then (ix x1.Args 1).bind fun ex1 => (bif ex1.Op == 0 then (ix x1.Args 1).bind fun ex3 => some (ex3.N == 0) else some false).bind fun v3 => bif v3 then some (0, 14) else (ix x1.Args 1).bind fun ex2 => bif ex2.Op != 0 then some (0, 13) else (a3t n x1.Op l2).bind fun v4 => bif !v4.2 then some (0, 13) else some (v4.1, 0) else (a3t n x1.Op l2).bind fun v5 => bif !v5.2 then some (0, 13) else some (v5.1, 0)) := ⟨_, Y⟩
  replace hm : (fun m (s : Int × List Int) => a3z n (ref35_typed n) x1 names1 kont1 m s.1 s.2) n (0, []) = some r := by rw [hkont1]; exact hm
  refine a5p (id := 0) (fun m (s : Int × List Int) => a3z n (ref35_typed n) x1 names1 kont1 m s.1 s.2) (fun (y : List Int) => kont1 y) r (fun (s : Int × List Int) a w' => ∃ (g4 : Frz) (g5 : Option Addr) (H : Nat) (R : Nat) (xss3 : List Value), Frz.le F g4 ∧ HS F w [] g4 [.row 3 1 g5 H R xss3, .box b1 24 [.int .i64 x1.Op, .int .i64 x1.N, vs x1.Name, .slice L M x]] w' ∧ (RowN (Rp.int .i64) g4 H xss3 s.2) ∧ Has 91 a [(1, .slice z G k), (2, .pointer (some ⟨b1, 0, none⟩)), (6, .slice g5 H R), (7, .int .i64 s.1)]) (fun (y : List Int) a w' => ∃ (g6 : Frz) (I : Option Addr) (o : Nat) (p : Nat) (xss4 : List Value), Frz.le F g6 ∧ HS F w [] g6 [.row 3 1 I o p xss4, .box b1 24 [.int .i64 x1.Op, .int .i64 x1.N, vs x1.Name, .slice L M x]] w' ∧ (RowN (Rp.int .i64) g6 o xss4 y) ∧ Has 91 a [(1, .slice z G k), (2, .pointer (some ⟨b1, 0, none⟩)), (6, .slice I o p)]) (fun _ => Y) ?_ ?_ hm ⟨_, (some ⟨b2, 0, none⟩), 0, 0, [], Yf, gy.Yp [0, 1] Y Y, ((show RowN (Rp.int .i64) F 0 [] [] from ⟨Y, (Y : RowR (Rp.int .i64) _ [] [])⟩)), gp.cut (l := [1, 2, 6, 7]) Y⟩
  clear hm; rintro l2 a g9 hm ⟨g6, I, o, p, xss4, g7, g, ga, gq⟩
  rw [hkont1] at hm
  replace hm := hm
  refine a2g (e := .exit 0) gq (a1k (a0c (a0h (a0h (a0a (a0e fa24_0 Y Y Y (a0p ag3 Y Y g Y (i := 1) Y Y (a0u Y Y Y Y Y (a0d Y Y Y ?_)))))))))
  obtain ⟨v1, T, hm⟩ := Yb hm
  refine a1z 4 (fun a w' => g9 = w' ∧ Has 91 a [(1, .slice z G k), (2, .pointer (some ⟨b1, 0, none⟩)), (6, .slice I o p), (44, .bool v1)]) ?_ ?_
  rintro a hx ⟨rfl, gr⟩
  refine a0z gr (a0d Y Y Y ?_)
  obtain ⟨v2, t, hm⟩ := Yb hm
  refine a1z 6 (fun a w' => g9 = w' ∧ Has 91 a [(2, .pointer (some ⟨b1, 0, none⟩)), (6, .slice I o p), (51, .bool v2)]) ?_ ?_
  rintro a hy ⟨rfl, gs⟩
  refine a0z gs (a0g (a0c ?_))
  rcases a0f hm with ⟨gb, hm⟩ | ⟨gb, hm⟩
  refine a0r 51 Y gb (a0y Y (a0h (a0a (a0b Y Y Y (a0b Y Y Y (a0g (a0c (a1d (a0j (a1o (vl := [.int .i64 0, .int .i64 11]) Y ⟨a1r Y, a1r Y, trivial⟩ (by simp) ?_))))))))))
  obtain rfl := Yo hm
  exact ⟨_, _, _, Y, g.Yp [] Y Y, Y, Y⟩
  refine a0r 51 Y gb (a0q Y (a1c (a0c (a0h (a0h (a0a (a0e fa24_0 Y Y Y (a0p ag3 Y Y g Y (i := 1) Y Y (a0u Y Y Y Y Y (a0g (a0c ?_)))))))))))
  rcases a0f hm with ⟨gc, hm⟩ | ⟨gc, hm⟩
  refine a0r 54 Y gc (a0y Y (a0h (a0a (a0b Y Y Y (a0b Y Y Y (a0g (a0c (a1d (a0j (a1o (vl := [.int .i64 2, .int .i64 0]) Y ⟨a1r Y, a1r Y, trivial⟩ (by simp) ?_))))))))))
  obtain rfl := Yo hm
  exact ⟨_, _, _, Y, g.Yp [] Y Y, Y, Y⟩
  refine a0r 54 Y gc (a0q Y (a1c (a0c (a0h (a0h (a0a (a0d Y Y Y (a1x ga.len u28 Y Y Y (a0u Y Y Y Y Y (a0g (a0c ?_)))))))))))
  rcases a0f hm with ⟨gd, hm⟩ | ⟨gd, hm⟩
  refine a0r 57 Y gd (a0y Y (a0h (a0a (a0b Y Y Y (a0b Y Y Y (a0g (a0c (a1d (a0j (a1o (vl := [.int .i64 1, .int .i64 0]) Y ⟨a1r Y, a1r Y, trivial⟩ (by simp) ?_))))))))))
  obtain rfl := Yo hm
  exact ⟨_, _, _, Y, g.Yp [] Y Y, Y, Y⟩
  refine a0r 57 Y gd (a0q Y (a1c (a0c (a0h (a0h (a0a (a0e fa24_0 Y Y Y (a0p ag3 Y Y g Y (i := 1) Y Y (a0u Y Y Y Y Y (a0g (a0c ?_)))))))))))
  rcases a0f hm with ⟨ge, hm⟩ | ⟨ge, hm⟩
  refine a0r 60 Y ge (a0y Y (a0h (a0h (a0a (a0e fa24_3 Y Y Y (a0p ag22 Y Y g Y (i := 1) Y Y ?_))))))
  obtain ⟨ex1, gz, hm⟩ := Yb hm
  refine a2e (r := rp_Expr) u22 sz24 Y Y Y Y (Q.mono g7) gz ?_
  intro b3 o1 x h0 h1
  obtain ⟨hz, i0, i2, h2, i3⟩ := expr_iff.1 h1
  subst h2
  refine a0e fa24_0 Y Y Y (a1s (j := 0) ag3 Y Y g h0 Y Y (a0u Y Y Y Y Y (a0d Y Y Y ?_)))
  obtain ⟨v3, u, hm⟩ := Yb hm
  refine a1z 7 (fun a w' => g9 = w' ∧ Has 91 a [(2, .pointer (some ⟨b1, 0, none⟩)), (6, .slice I o p), (74, .bool v3)]) ?_ ?_
  rintro a i4 ⟨rfl, gt⟩
  refine a0z gt (a0g (a0c ?_))
  rcases a0f hm with ⟨gf, hm⟩ | ⟨gf, hm⟩
  refine a0r 74 Y gf (a0y Y (a0h (a0a (a0b Y Y Y (a0b Y Y Y (a0g (a0c (a1d (a0j (a0j (a1o (vl := [.int .i64 0, .int .i64 14]) Y ⟨a1r Y, a1r Y, trivial⟩ (by simp) ?_)))))))))))
  obtain rfl := Yo hm
  exact ⟨_, _, _, Y, g.Yp [] Y Y, Y, Y⟩
  refine a0r 74 Y gf (a0q Y (a1c (a0c (a0h (a0a (a0e fa24_3 Y Y Y (a0p ag22 Y Y g Y (i := 1) Y Y ?_)))))))
  obtain ⟨ex2, h3, hm⟩ := Yb hm
  refine a2e (r := rp_Expr) u22 sz24 Y Y Y Y (Q.mono g7) h3 ?_
  intro b4 o2 k h4 h5
  obtain ⟨i5, i6, i7, h6, i8⟩ := expr_iff.1 h5
  subst h6
  refine a0e fa24_0 Y Y Y (a1s (j := 0) ag3 Y Y g h4 Y Y (a0u Y Y Y Y Y (a0g (a0c ?_))))
  rcases a0f hm with ⟨gg, hm⟩ | ⟨gg, hm⟩
  refine a0r 80 Y gg (a0y Y (a0h (a0a (a0b Y Y Y (a0b Y Y Y (a0g (a0c (a1d (a0j (a1o (vl := [.int .i64 0, .int .i64 13]) Y ⟨a1r Y, a1r Y, trivial⟩ (by simp) ?_))))))))))
  obtain rfl := Yo hm
  exact ⟨_, _, _, Y, g.Yp [] Y Y, Y, Y⟩
  refine a0r 80 Y gg (a0q Y (a1c (a0c (a0h (a0a (a0e fa24_0 Y Y Y (a0p ag3 Y Y g Y (i := 1) Y Y (a0d Y Y Y ?_))))))))
  obtain ⟨i9, ia, gi, hsx1⟩ := a1h g (i := 0) Y ga
  obtain ⟨v4, h7, hm⟩ := Yb hm
  refine a0i ent109 Y Y Y Y gi (b8n _ _ _ _ h7 gi.sat hsx1) ?_
  rintro _ ib _ ic ie gj ⟨rfl, rfl⟩
  refine a0d Y Y Y (a0l Y Y Y Y (a0l Y Y Y Y (a0b Y Y Y (a0b Y Y Y (a0g (a0c (a0h (a0h (a0a (a0d Y Y Y (a3d Y Y Y (a0g (a0c ?_)))))))))))))
  rcases a0f hm with ⟨U, hm⟩ | ⟨U, hm⟩
  refine a0r 89 Y U (a0y Y (a0h (a0a (a0b Y Y Y (a0b Y Y Y (a0g (a0c (a1d (a0j (a1o (vl := [.int .i64 0, .int .i64 13]) Y ⟨a1r Y, a1r Y, trivial⟩ (by simp) ?_))))))))))
  obtain rfl := Yo hm
  exact ⟨_, _, _, Y, gj.Yp [] Y Y, Y, Y⟩
  refine a0r 89 Y U (a0q Y (a1c (a0c (a0h (a0a (a0d Y Y Y (a0b Y Y Y (a0b Y Y Y (a0g (a0c (a1d (a1o (vl := [.int .i64 v4.1, .int .i64 0]) Y ⟨a1r Y, a1r Y, trivial⟩ (by simp) ?_))))))))))))
  obtain rfl := Yo hm
  exact ⟨_, _, _, Y, gj.Yp [] Y Y, Y, Y⟩
  clear hm
  rcases a0f u with ⟨V, u⟩ | ⟨V, u⟩
  refine a1g 67 Y V (a0e fa24_3 Y Y Y (a0p ag22 Y Y g Y (i := 1) Y Y ?_))
  obtain ⟨ex3, h8, u⟩ := Yb u
  refine a2e (r := rp_Expr) u22 sz24 Y Y Y Y (Q.mono g7) h8 ?_
  intro b5 o3 R h9 hb
  obtain ⟨ig, ii, ij, hc, ik⟩ := expr_iff.1 hb
  subst hc
  refine a0e fa24_1 Y Y Y (a1s (j := 1) ag3 Y Y g h9 Y Y (a0u Y Y Y Y Y (a0n Y Y Y Y (a0g (a0o (fun a ha => ?_))))))
  cases u
  exact ⟨Y, ha.cut (l := [2, 6, 74]) Y⟩
  refine a1g 67 Y V (a0t Y (by decide) Y (a0t Y (by decide) Y (a0t Y (by decide) Y (a0t Y (by decide) Y (a0t Y (by decide) Y (a0t Y (by decide) Y (a0k Y Y Y Y (a0g (a0o (fun a ha => ?_))))))))))
  cases u
  exact ⟨Y, ha.cut (l := [2, 6, 74]) Y⟩
  refine a0r 60 Y ge (a0q Y (a1c (a0c (a0h (a0a (a0e fa24_0 Y Y Y (a0p ag3 Y Y g Y (i := 1) Y Y (a0d Y Y Y ?_))))))))
  obtain ⟨il, im, gk, hsx2⟩ := a1h g (i := 0) Y ga
  obtain ⟨v5, hd, hm⟩ := Yb hm
  refine a0i ent109 Y Y Y Y gk (b8n _ _ _ _ hd gk.sat hsx2) ?_
  rintro _ io _ ip iq gl ⟨rfl, rfl⟩
  refine a0d Y Y Y (a0l Y Y Y Y (a0l Y Y Y Y (a0b Y Y Y (a0b Y Y Y (a0g (a0c (a0h (a0h (a0a (a0d Y Y Y (a3d Y Y Y (a0g (a0c ?_)))))))))))))
  rcases a0f hm with ⟨Z, hm⟩ | ⟨Z, hm⟩
  refine a0r 89 Y Z (a0y Y (a0h (a0a (a0b Y Y Y (a0b Y Y Y (a0g (a0c (a1d (a0j (a1o (vl := [.int .i64 0, .int .i64 13]) Y ⟨a1r Y, a1r Y, trivial⟩ (by simp) ?_))))))))))
  obtain rfl := Yo hm
  exact ⟨_, _, _, Y, gl.Yp [] Y Y, Y, Y⟩
  refine a0r 89 Y Z (a0q Y (a1c (a0c (a0h (a0a (a0d Y Y Y (a0b Y Y Y (a0b Y Y Y (a0g (a0c (a1d (a1o (vl := [.int .i64 v5.1, .int .i64 0]) Y ⟨a1r Y, a1r Y, trivial⟩ (by simp) ?_))))))))))))
  obtain rfl := Yo hm
  exact ⟨_, _, _, Y, gl.Yp [] Y Y, Y, Y⟩
  clear hm
  rcases a0f t with ⟨g0, t⟩ | ⟨g0, t⟩
  refine a1g 45 Y g0 (a0d Y Y Y (a0e fa24_2 Y Y Y (a0p ag9 Y Y g Y (i := 1) Y Y ?_)))
  obtain ⟨v6, he, t⟩ := Yb t
  refine a3c ent108 Y Y Y Y (b5k _ _ _ _ he g.sat (gh.mono g7)) (a0u Y Y Y Y Y (a0n Y Y Y Y (a0g (a0o (fun a ha => ?_)))))
  cases t
  exact ⟨Y, ha.cut (l := [2, 6, 51]) Y⟩
  refine a1g 45 Y g0 (a0t Y (by decide) Y (a0t Y (by decide) Y (a0t Y (by decide) Y (a0t Y (by decide) Y (a0t Y (by decide) Y (a0k Y Y Y Y (a0g (a0o (fun a ha => ?_)))))))))
  cases t
  exact ⟨Y, ha.cut (l := [2, 6, 51]) Y⟩
  clear hm
  rcases a0f T with ⟨g1, T⟩ | ⟨g1, T⟩
  refine a1g 40 Y g1 (a0t Y (by decide) Y (a0t Y (by decide) Y (a0t Y (by decide) Y (a0n Y Y Y Y (a0g (a0o (fun a ha => ?_)))))))
  cases T
  exact ⟨Y, ha.cut (l := [1, 2, 6, 44]) Y⟩
  refine a1g 40 Y g1 (a0e fa24_0 Y Y Y (a0p ag3 Y Y g Y (i := 1) Y Y (a0u Y Y Y Y Y (a0k Y Y Y Y (a0g (a0o (fun a ha => ?_)))))))
  cases T
  exact ⟨Y, ha.cut (l := [1, 2, 6, 44]) Y⟩
  clear hm hkont1; intro hk1 mx1 K ihx1
  rintro ⟨i1, l1⟩ a ir hm ⟨g4, g5, H, R, xss3, g8, J, gm, gu⟩
  simp only [a9d] at hm
  refine a1n gu (a0h (a0h (a0a (a0d Y Y Y (a0e fa24_3 Y Y Y (a0p ag22 Y Y J Y (i := 1) Y Y (a1x Q.len u22 Y Y Y (a0u Y Y Y Y Y (a0g (a0c ?_))))))))))
  rcases a0f hm with ⟨g2, hm⟩ | ⟨g2, hm⟩
  refine a0r 17 Y g2 (a0y Y (a1c (a0c (a0h (a1i (a0h (a0a (a0e fa24_3 Y Y Y (a0p ag22 Y Y J Y (i := 1) Y Y (a0d Y Y Y ?_))))))))))
  obtain ⟨ex4, hf, hm⟩ := Yb hm
  refine a2e (r := rp_Expr) u22 sz24 Y Y Y Y (Q.mono g8) hf ?_
  intro b6 o4 p hg hh
  obtain ⟨it, iu, iv, hi, hj⟩ := expr_iff.1 hh
  subst hi
  refine a4g ag24 sz24 Y Y J hg Y Y (a0d Y Y Y ?_)
  obtain ⟨v7, hk, hm⟩ := Yb hm
  refine a0i ent73 Y Y Y Y J (ih _ _ _ hk J.sat hj (gh.mono g8)) ?_
  rintro _ hl _ hr gn go ⟨rfl, rfl⟩
  refine a0d Y Y Y (a0l Y Y Y Y (a0l Y Y Y Y (a0b Y Y Y (a0b Y Y Y (a0g (a0c (a0h (a0h (a0a (a0d Y Y Y (a0u Y Y Y Y Y (a0g (a0c ?_)))))))))))))
  rcases a0f hm with ⟨g3, hm⟩ | ⟨g3, hm⟩
  refine a0r 31 Y g3 (a0y Y (a0h (a0a (a0d Y Y Y (a0b Y Y Y (a0b Y Y Y (a0g (a0c (a1d (a0j (a0v (a0j (a0j (a0v (a0j (a1o (vl := [.int .i64 0, .int .i64 v7.2]) Y ⟨a1r Y, a1r Y, trivial⟩ (by simp) ?_))))))))))))))))
  obtain rfl := Yo hm
  exact ⟨_, _, _, Y, go.Yp [] Y Y, Y, Y⟩
  refine a0r 31 Y g3 (a0q Y (a1c (a0c (a0a (a0d Y Y Y (a0d Y Y Y (a1v (e := 3) (cs := [.int .i64 v7.1]) (q := 1) Y Y go Y (fun _ => by kernel_rfl) Y Y ?_)))))))
  intro b7 ht gv
  obtain ⟨l3, hn, hm⟩ := Yb hm
  refine a9y (r := (Rp.int .i64)) ap28 Y Y gv Y Y (i := 1) (j := 0) Y Y (gm.mono gn) ((show RowN (Rp.int .i64) hl 1 [.int .i64 v7.1] [v7.1] from ⟨Y, ⟨_, _, Y, Y, (Y : RowR (Rp.int .i64) _ [] [])⟩⟩)) hn ?_
  intro ho hp hu gw hq
  refine a0b Y Y Y (a0g (a1q (a0c (a0a (a0d Y Y Y (a0u Y Y Y Y Y (a0b Y Y Y (a0g (a0o (fun a ha => ihx1 ((iadd .i64 i1 1), l3) a _ hm ?_))))))))))
  exact ⟨_, ho, (H + 1), hp, (xss3 ++ [.int .i64 v7.1]), (g8.trans gn), gw.Yp [1, 2] Y Y, hq, ha.cut (l := [1, 2, 6, 7]) Y⟩
  refine a0r 17 Y g2 (a0q Y (a3p (a0x (a0x (fun a ha => hk1 l1 a _ hm ?_)))))
  exact ⟨_, g5, H, R, xss3, g8, J.Yp [0, 1] Y Y, gm, ha.cut (l := [1, 2, 6]) Y⟩
theorem c2c (n : Nat) (x1 : Expr) (names1 : (List Bs)) (r : (Int × Int)) (hm : ref35_typed n x1 names1 = some r) {w : World} {F : Frz} (hs : Sat F w) {g h : Option Addr} {i j k l : Nat} (m : SlR rp_Expr F g i j x1.Args) (o : SlR Rp.str F h k l names1) :
  Calls Tryz.prog 73 #[.agg #[.int .i64 x1.Op, .int .i64 x1.N, vs x1.Name, .slice g i j], .slice h k l] w fun e w' => ∃ v F' O', e = .returned v ∧ HS F w [] F' O' w' ∧ (v = .tuple #[.int .i64 r.1, .int .i64 r.2] ∧ O' = []) :=
 (c0q n) x1 names1 r hm hs m o
theorem ent71 : Ent Tryz.prog 71 := fun _ _ => by kernel_rfl
theorem ent72 : Ent Tryz.prog 72 := fun _ _ => by kernel_rfl
def b3r (n : Nat) (t1 : Tariff) (names1 : (List Bs)) : Option Int :=
 (b2o n names1).bind fun v1 =>
 bif !v1 then
  some 1
 else
  (b0f n t1).bind fun v2 =>
  bif !v2 then
   some 2
  else
   (ref35_typed n t1.Fee names1).bind fun v3 =>
   (bif v3.2 == 0 then
    some (v3.1 == 0)
   else
    some false).bind fun v4 =>
   bif v4 then
    some 13
   else
    some v3.2
theorem c1w (n : Nat) (t1 : Tariff) (names1 : (List Bs)) (r : Int) (hm : b3r n t1 names1 = some r) {w : World} {F : Frz} (hs : Sat F w) {m y : Option Addr} {o p z G : Nat} (H : SlR rp_Expr F m o p t1.Fee.Args) (I : SlR Rp.str F y z G names1) :
  Calls Tryz.prog 36 #[.agg #[vs t1.Name, .int .i64 t1.Fee.Op, .int .i64 t1.Fee.N, vs t1.Fee.Name, .slice m o p, .int .i64 t1.Cap], .slice y z G] w fun e w' => ∃ v F' O', e = .returned v ∧ HS F w [] F' O' w' ∧ (v = .int .i64 r ∧ O' = []) := by
 unfold b3r at hm
 have h := HS.init hs
 refine a1a 27 Tryz.func36 Y Y Y (a0h (a0a (a2i Y Y Y Y h ?_)))
 intro b1 V J
 refine a0b Y Y Y (a0g (a0c (a0h (a0h (a0a (a0d Y Y Y ?_))))))
 obtain ⟨v1, Q, hm⟩ := Yb hm
 refine a0i ent71 Y Y Y Y J (c1o _ _ _ Q J.sat I) ?_
 rintro _ Z _ g0 q j ⟨rfl, rfl⟩
 refine a3d Y Y Y (a0g (a0c ?_))
 rcases a0f hm with ⟨s, hm⟩ | ⟨s, hm⟩
 refine a0r 9 Y s (a0y Y (a0h (a0a (a0b Y Y Y (a0g (a0c (a1d (a0j (a1j Y Y ?_)))))))))
 obtain rfl := Yo hm
 exact ⟨_, _, _, Y, j.Yp [] Y Y, Y, Y⟩
 refine a0r 9 Y s (a0q Y (a1c (a0c (a0h (a0h (a0a (a0m ag26 sz26 Y Y j Y (i := 0) Y Y ?_)))))))
 obtain ⟨v2, R, hm⟩ := Yb hm
 refine a0i ent72 Y Y Y Y j (b9b _ _ _ R j.sat (H.mono q)) ?_
 rintro _ g1 _ g2 K k ⟨rfl, rfl⟩
 refine a3d Y Y Y (a0g (a0c ?_))
 rcases a0f hm with ⟨t, hm⟩ | ⟨t, hm⟩
 refine a0r 12 Y t (a0y Y (a0h (a0a (a0b Y Y Y (a0g (a0c (a1d (a0j (a1j Y Y ?_)))))))))
 obtain rfl := Yo hm
 exact ⟨_, _, _, Y, k.Yp [] Y Y, Y, Y⟩
 refine a0r 12 Y t (a0q Y (a1c (a0c (a0h (a0a (a0e fa26_1 Y Y Y (a1u (cs' := [.int .i64 t1.Fee.Op, .int .i64 t1.Fee.N, vs t1.Fee.Name, .slice m o p]) ag24 sz24 Y Y k Y (i := 0) Y Y Y (a0d Y Y Y ?_))))))))
 obtain ⟨v3, T, hm⟩ := Yb hm
 refine a0i ent73 Y Y Y Y k (c2c _ _ _ _ T k.sat ((H.mono q).mono K) ((I.mono q).mono K)) ?_
 rintro _ g3 _ U g4 L ⟨rfl, rfl⟩
 refine a0d Y Y Y (a0l Y Y Y Y (a0l Y Y Y Y (a0b Y Y Y (a0b Y Y Y (a0g (a0c (a0h (a0h (a0a (a0d Y Y Y (a0u Y Y Y Y Y (a0d Y Y Y ?_))))))))))))
 obtain ⟨v4, g, hm⟩ := Yb hm
 refine a1z 3 (fun a w' => U = w' ∧ Has 27 a [(6, .int .i64 v3.2), (25, .bool v4)]) ?_ ?_
 rintro a g5 ⟨rfl, M⟩
 refine a0z M (a0g (a0c ?_))
 rcases a0f hm with ⟨u, hm⟩ | ⟨u, hm⟩
 refine a0r 25 Y u (a0y Y (a0h (a0a (a0b Y Y Y (a0g (a0c (a1d (a0j (a1j Y Y ?_)))))))))
 obtain rfl := Yo hm
 exact ⟨_, _, _, Y, L.Yp [] Y Y, Y, Y⟩
 refine a0r 25 Y u (a0q Y (a1c (a0c (a0h (a0a (a0d Y Y Y (a0b Y Y Y (a0g (a0c (a1d (a1j Y Y ?_)))))))))))
 obtain rfl := Yo hm
 exact ⟨_, _, _, Y, L.Yp [] Y Y, Y, Y⟩
 clear hm
 rcases a0f g with ⟨x, g⟩ | ⟨x, g⟩
 refine a1g 22 Y x (a0d Y Y Y (a0u Y Y Y Y Y (a0n Y Y Y Y (a0g (a0o (fun a ha => ?_))))))
 cases g
 exact ⟨Y, ha.cut (l := [6, 25]) Y⟩
 refine a1g 22 Y x (a0t Y (by decide) Y (a0t Y (by decide) Y (a0k Y Y Y Y (a0g (a0o (fun a ha => ?_))))))
 cases g
 exact ⟨Y, ha.cut (l := [6, 25]) Y⟩
end Go.Proofs.YtknpjecpcmajiaaGreat.M

