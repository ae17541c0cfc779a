/- Several texts in one, for FeeTurns.card: what the theorem leans on. -/
import Derived.Test.YtknpjecpcmajiaaGreatDoorRows
import Derived.Test.YtknpjecpcmajiaaGreatDoorPk3
set_option maxHeartbeats 1000000
set_option maxRecDepth 1000000
namespace Go.Proofs.YtknpjecpcmajiaaGreatDoor.M
open Go Go.RowKit Rt
theorem u4 : Tryz.prog.underlying 4 = some .bool := by kernel_rfl
def a7f (n : Nat) (ax1 : Big) (kont1 : Option Bool) : Nat → Int → Option Bool
 | 0, _ => none
 | mx1 + 1, i1 =>
  bif decide (i1 < (ax1.Digits.length : Int)) then
   (ix ax1.Digits i1).bind fun ex2 =>
   (bif decide (ex2 < 0) then
    some true
   else
    (ix ax1.Digits i1).bind fun ex3 =>
    some (decide (1048576 ≤ ex3))).bind fun v4 =>
   bif v4 then
    some false
   else
    a7f n ax1 kont1 mx1 (iadd .i64 i1 1)
  else
   kont1
theorem b7w (n : Nat) (ax1 : Big) (kont1 : Option Bool) (mx1 : Nat) (i1 : Int) : a7f n ax1 kont1 (mx1 + 1) i1 =
  bif decide (i1 < (ax1.Digits.length : Int)) then
   (ix ax1.Digits i1).bind fun ex2 =>
   (bif decide (ex2 < 0) then
    some true
   else
    (ix ax1.Digits i1).bind fun ex3 =>
    some (decide (1048576 ≤ ex3))).bind fun v4 =>
   bif v4 then
    some false
   else
    a7f n ax1 kont1 mx1 (iadd .i64 i1 1)
  else
   kont1 := rfl
def a6w (n : Nat) (ax1 : Big) : Option Bool :=
 a7f n ax1 (
  (bif decide (ax1.Sign < (-1)) then
   some true
  else
   some (decide (1 < ax1.Sign))).bind fun v1 =>
  (bif v1 then
   some true
  else
   some (!(((ax1.Digits.length : Int) == 0) == (ax1.Sign == 0)))).bind fun v2 =>
  bif v2 then
   some false
  else
   (bif (ax1.Digits.length : Int) == 0 then
    some true
   else
    (ix ax1.Digits (isub .i64 (ax1.Digits.length : Int) 1)).bind fun ex1 =>
    some (ex1 != 0)).bind fun v3 =>
   some v3) n 0
theorem a6a (n : Nat) (ax1 : Big) (r : Bool) (hm : a6w n ax1 = some r) {w : World} {F : Frz} (hs : Sat F w) {N : Option Addr} {Q : Nat} {G : Nat} (q : SlR (Rp.int .i64) F N Q G ax1.Digits) :
  Calls Tryz.prog 66 #[.agg #[.int .i64 ax1.Sign, .slice N Q G]] w fun e w' => ∃ v F' O', e = .returned v ∧ HS F w [] F' O' w' ∧ (v = .bool r ∧ O' = []) := by
 unfold a6w at hm
 have h := HS.init hs
 refine a1a 56 Tryz.func66 Y Y Y (a0g (a0a (a2z Y Y Y Y h ?_)))
 intro b1 p g
 refine a0b Y Y Y (a0e (a0c (a0g (a0g (a0a (a0b Y Y Y (a0e (a0c (a1j ?_)))))))))
 intro a R
 obtain ⟨kont1, hkont1⟩ : ∃ kont1 : Option Bool, kont1 = ( (bif decide (ax1.Sign < (-1)) then some true else some (decide (1 < ax1.Sign))).bind fun v1 => (bif v1 then some true else some (!(((ax1.Digits.length : Int) == 0) == (ax1.Sign == 0)))).bind fun v2 => bif v2 then some false else (bif (ax1.Digits.length : Int) == 0 then some true else (ix ax1.Digits (isub .i64 (ax1.Digits.length : Int) 1)).bind fun ex1 => some (ex1 != 0)).bind fun v3 => some v3) := ⟨_, Y⟩
 replace hm : (fun m (s : Int) => a7f n ax1 kont1 m s) n 0 = some r := by rw [hkont1]; exact hm
 refine a5j (id := 0) (fun m (s : Int) => a7f n ax1 kont1 m s) (fun (y : Unit) => kont1) r (fun (s : Int) a w' => p = w' ∧ Has 56 a [(1, .pointer (some ⟨b1, 0, none⟩)), (3, .int .i64 s)]) (fun (y : Unit) a w' => p = w' ∧ Has 56 a [(1, .pointer (some ⟨b1, 0, none⟩))]) (fun _ => Y) ?_ ?_ hm ⟨Y, R.cut (l := [1, 3]) Y⟩
 clear hm; rintro _u a gg hm ⟨rfl, T⟩
 rw [hkont1] at hm
 refine a2c (e := .exit 0) T (a1m (a0c (a0g (a0a (a0f fa35_1 Y Y Y (a0n ag28 Y Y g Y (i := 0) Y Y (a1y q.len u28 Y Y Y (a0b Y Y Y (a0e (a0c (a0g (a0g (a0a (a0f fa35_0 Y Y Y ?_))))))))))))))
 refine a0n ag3 Y Y g Y (i := 0) Y Y (a0u Y Y Y Y Y (a0d Y Y Y ?_))
 obtain ⟨v1, t, hm⟩ := Yb hm
 refine a2g 4 (fun a w' => p = w' ∧ Has 56 a [(1, .pointer (some ⟨b1, 0, none⟩)), (4, .int .i64 (ax1.Digits.length : Int)), (36, .bool v1)]) ?_ ?_
 rintro a gh ⟨rfl, U⟩
 refine a1d U (a0d Y Y Y ?_)
 obtain ⟨v2, u, hm⟩ := Yb hm
 refine a2g 7 (fun a w' => p = w' ∧ Has 56 a [(1, .pointer (some ⟨b1, 0, none⟩)), (4, .int .i64 (ax1.Digits.length : Int)), (44, .bool v2)]) ?_ ?_
 rintro a gi ⟨rfl, V⟩
 refine a1d V (a0e (a0c ?_))
 rcases a0h hm with ⟨H, hm⟩ | ⟨H, hm⟩
 refine a0r 44 Y H (a0x Y (a0g (a0a (a0b Y Y Y (a0e (a0c (a1c (a0j (a1n Y Y ?_)))))))))
 obtain rfl := Yo hm
 exact ⟨_, _, _, Y, g.Yp [] Y Y, Y, Y⟩
 refine a0r 44 Y H (a0p Y (a1b (a0c (a0g (a0a (a0d Y Y Y (a0u Y Y Y Y Y (a0d Y Y Y ?_))))))))
 obtain ⟨v3, k, hm⟩ := Yb hm
 refine a2g 8 (fun a w' => p = w' ∧ Has 56 a [(55, .bool v3)]) ?_ ?_
 rintro a gj ⟨rfl, Z⟩
 refine a1d Z (a0b Y Y Y (a0e (a0c (a1c (a1n Y Y ?_)))))
 obtain rfl := Yo hm
 exact ⟨_, _, _, Y, g.Yp [] Y Y, Y, Y⟩
 clear hm
 rcases a0h k with ⟨I, k⟩ | ⟨I, k⟩
 refine a1k 47 Y I (a0y Y (by decide) Y (a0y Y (by decide) Y (a0y Y (by decide) Y (a0y Y (by decide) Y (a0y Y (by decide) Y (a0y Y (by decide) Y (a0y Y (by decide) Y (a0s Y Y Y Y (a0e (a0k (fun a ha => ?_)))))))))))
 cases k
 exact ⟨Y, ha.cut (l := [55]) Y⟩
 refine a1k 47 Y I (a0f fa35_1 Y Y Y (a0n ag28 Y Y g Y (i := 0) Y Y (a0d Y Y Y (a0u Y Y Y Y Y ?_))))
 obtain ⟨ex1, g2, k⟩ := Yb k
 refine a2r (r := (Rp.int .i64)) u28 sz3 Y Y Y Y q g2 ?_
 intro b2 o1 G g3 g4
 have g5 : G = [.int .i64 ex1] := g4
 subst g5
 refine a2j (j := 0) ag3 Y Y g g3 Y Y (a0u Y Y Y Y Y (a0m Y Y Y Y (a0e (a0k (fun a ha => ?_)))))
 cases k
 exact ⟨Y, ha.cut (l := [55]) Y⟩
 clear hm
 rcases a0h u with ⟨J, u⟩ | ⟨J, u⟩
 refine a1k 37 Y J (a0y Y (by decide) Y (a0y Y (by decide) Y (a0y Y (by decide) Y (a0y Y (by decide) Y (a0y Y (by decide) Y (a0y Y (by decide) Y (a0s Y Y Y Y (a0e (a0k (fun a ha => ?_))))))))))
 cases u
 exact ⟨Y, ha.cut (l := [1, 4, 44]) Y⟩
 refine a1k 37 Y J (a0d Y Y Y (a0u Y Y Y Y Y (a0f fa35_0 Y Y Y (a0n ag3 Y Y g Y (i := 0) Y Y (a0u Y Y Y Y Y (d7k u4 Y Y Y Y ?_))))))
 refine a0m Y Y Y Y (a0e (a0k (fun a ha => ?_)))
 cases u
 exact ⟨Y, ha.cut (l := [1, 4, 44]) Y⟩
 clear hm
 rcases a0h t with ⟨L, t⟩ | ⟨L, t⟩
 refine a1k 32 Y L (a0y Y (by decide) Y (a0y Y (by decide) Y (a0y Y (by decide) Y (a0s Y Y Y Y (a0e (a0k (fun a ha => ?_)))))))
 cases t
 exact ⟨Y, ha.cut (l := [1, 4, 36]) Y⟩
 refine a1k 32 Y L (a0f fa35_0 Y Y Y (a0n ag3 Y Y g Y (i := 0) Y Y (a0u Y Y Y Y Y (a0m Y Y Y Y (a0e (a0k (fun a ha => ?_)))))))
 cases t
 exact ⟨Y, ha.cut (l := [1, 4, 36]) Y⟩
 clear hm hkont1; intro hk1 mx1 K ihx1
 rintro i1 a gk hm ⟨rfl, g0⟩
 simp only [b7w] at hm
 refine a1l g0 (a0g (a0g (a0a (a0d Y Y Y (a0f fa35_1 Y Y Y (a0n ag28 Y Y g Y (i := 0) Y Y (a1y q.len u28 Y Y Y (a0u Y Y Y Y Y (a0e (a0c ?_))))))))))
 rcases a0h hm with ⟨M, hm⟩ | ⟨M, hm⟩
 refine a0r 9 Y M (a0x Y (a1b (a0c (a0g (a1j (a0g (a0a (a0f fa35_1 Y Y Y (a0n ag28 Y Y g Y (i := 0) Y Y (a0d Y Y Y ?_))))))))))
 obtain ⟨ex2, g6, hm⟩ := Yb hm
 refine a2r (r := (Rp.int .i64)) u28 sz3 Y Y Y Y q g6 ?_
 intro b3 o2 g7 g8 g9
 have ga : g7 = [.int .i64 ex2] := g9
 subst ga
 refine a2j (j := 0) ag3 Y Y g g8 Y Y (a0u Y Y Y Y Y (a0d Y Y Y ?_))
 obtain ⟨v4, o, hm⟩ := Yb hm
 refine a2g 7 (fun a w' => p = w' ∧ Has 56 a [(1, .pointer (some ⟨b1, 0, none⟩)), (3, .int .i64 i1), (25, .bool v4)]) ?_ ?_
 rintro a gl ⟨rfl, g1⟩
 refine a1d g1 (a0e (a0c ?_))
 rcases a0h hm with ⟨x, hm⟩ | ⟨x, hm⟩
 refine a0r 25 Y x (a0x Y (a0g (a0a (a0b Y Y Y (a0e (a0c (a1c (a0t (a0j (a0j (a0t (a0j (a1n Y Y ?_)))))))))))))
 obtain rfl := Yo hm
 exact ⟨_, _, _, Y, g.Yp [] Y Y, Y, Y⟩
 refine a0r 25 Y x (a0p Y (a1b (a1o (a0c (a0a (a0d Y Y Y (a0u Y Y Y Y Y (a0b Y Y Y (a0e (a0k (fun a ha => ihx1 (iadd .i64 i1 1) a _ hm ?_)))))))))))
 exact ⟨Y, ha.cut (l := [1, 3]) Y⟩
 clear hm
 rcases a0h o with ⟨z, o⟩ | ⟨z, o⟩
 refine a1k 18 Y z (a0y Y (by decide) Y (a0y Y (by decide) Y (a0y Y (by decide) Y (a0y Y (by decide) Y (a0y Y (by decide) Y (a0y Y (by decide) Y (a0s Y Y Y Y (a0e (a0k (fun a ha => ?_))))))))))
 cases o
 exact ⟨Y, ha.cut (l := [1, 3, 25]) Y⟩
 refine a1k 18 Y z (a0f fa35_1 Y Y Y (a0n ag28 Y Y g Y (i := 0) Y Y (a0d Y Y Y ?_)))
 obtain ⟨ex3, gb, o⟩ := Yb o
 refine a2r (r := (Rp.int .i64)) u28 sz3 Y Y Y Y q gb ?_
 intro b4 o3 gc gd ge
 have gf : gc = [.int .i64 ex3] := ge
 subst gf
 refine a2j (j := 0) ag3 Y Y g gd Y Y (a0u Y Y Y Y Y (a0m Y Y Y Y (a0e (a0k (fun a ha => ?_)))))
 cases o
 exact ⟨Y, ha.cut (l := [1, 3, 25]) Y⟩
 refine a0r 9 Y M (a0p Y (a3p (a0w (a0w (fun a ha => hk1 () a _ hm ?_)))))
 exact ⟨Y, ha.cut (l := [1]) Y⟩
def a7z (n : Nat) (l1 : (List Int)) (kont1 : Int → Option (List Int)) : Nat → Int → Option (List Int)
 | 0, _ => none
 | mx1 + 1, nx1 =>
  (bif decide (0 < nx1) then
   (ix l1 (isub .i64 nx1 1)).bind fun ex1 =>
   some (ex1 == 0)
  else
   some false).bind fun v1 =>
  bif v1 then
   a7z n l1 kont1 mx1 (isub .i64 nx1 1)
  else
   kont1 nx1
theorem b8q (n : Nat) (l1 : (List Int)) (kont1 : Int → Option (List Int)) (mx1 : Nat) (nx1 : Int) : a7z n l1 kont1 (mx1 + 1) nx1 =
  (bif decide (0 < nx1) then
   (ix l1 (isub .i64 nx1 1)).bind fun ex1 =>
   some (ex1 == 0)
  else
   some false).bind fun v1 =>
  bif v1 then
   a7z n l1 kont1 mx1 (isub .i64 nx1 1)
  else
   kont1 nx1 := rfl
def a4g (n : Nat) (l1 : (List Int)) : Option (List Int) :=
 a7z n l1 (fun (nx2 : Int) =>
  (lsl l1 0 nx2).bind fun l2 =>
  (app 8 [] l2).bind fun l3 =>
  some l3) n (l1.length : Int)
theorem a6q (n : Nat) (l1 : (List Int)) (r : (List Int)) (hm : a4g n l1 = some r) {w : World} {F : Frz} (hs : Sat F w) {o : Option Addr} {p : Nat} {g : Nat} (t : SlR (Rp.int .i64) F o p g l1) :
  Calls Tryz.prog 101 #[.slice o p g] w fun e w' => ∃ v F' O', e = .returned v ∧ HS F w [] F' O' w' ∧ (∃ (a0_0 : Option Addr) (n0_0 : Nat) (c0_0 : Nat) (xs0_0 : List Value), v = .slice a0_0 n0_0 c0_0 ∧ O' = [.row 3 1 a0_0 n0_0 c0_0 xs0_0] ∧ RowN (Rp.int .i64) F' n0_0 xs0_0 r) := by
 unfold a4g at hm
 have h := HS.init hs
 refine a1a 23 Tryz.func101 Y Y Y (a0g (a0a (a0b Y Y Y (a0e (a0c (a0g (a0a (a0d Y Y Y (a1y t.len u28 Y Y Y (a0b Y Y Y (a0e (a0c (a0g (a1j ?_))))))))))))))
 intro a z
 obtain ⟨kont1, hkont1⟩ : ∃ kont1 : Int → Option (List Int), kont1 = (fun (nx2 : Int) => (lsl l1 0 nx2).bind fun l2 => (app 8 [] l2).bind fun l3 => some l3) := ⟨_, Y⟩
 replace hm : (fun m (s : Int) => a7z n l1 kont1 m s) n (l1.length : Int) = some r := by rw [hkont1]; exact hm
 refine a5j (id := 0) (fun m (s : Int) => a7z n l1 kont1 m s) (fun (y : Int) => kont1 y) r (fun (s : Int) a w' => w = w' ∧ Has 23 a [(0, .slice o p g), (3, .int .i64 s)]) (fun (y : Int) a w' => w = w' ∧ Has 23 a [(0, .slice o p g), (3, .int .i64 y)]) (fun _ => Y) ?_ ?_ hm ⟨Y, z.cut (l := [0, 3]) Y⟩
 clear hm; rintro nx2 a g3 hm ⟨rfl, G⟩
 rw [hkont1] at hm
 replace hm := hm
 refine a2c (e := .exit 0) G (a1m (a0c (a0g (a0a (a1f (e := 3) (cs := []) (q := 1) Y Y h Y (fun _ => by kernel_rfl) Y Y ?_)))))
 intro b1 g4 J
 refine a0d Y Y Y (a0d Y Y Y ?_)
 obtain ⟨l2, L, hm⟩ := Yb hm
 refine c8k u28 (r := (Rp.int .i64)) sz3 Y Y Y Y t L ?_
 intro g5 M g6 N
 obtain ⟨l3, Q, hm⟩ := Yb hm
 refine b6d (r := (Rp.int .i64)) ap28 Y Y Y J Y Y (i := 0) Y ((show RowN (Rp.int .i64) F 0 [] [] from ⟨Y, (Y : RowR (Rp.int .i64) _ [] [])⟩)) N Q ?_
 intro R T g7 xss3 U V
 refine a0b Y Y Y (a0e (a0c (a1c (a1n Y Y ?_))))
 obtain rfl := Yo hm
 exact ⟨_, _, _, Y, U.Yp [0] Y Y, R, (0 + M), T, xss3, Y, Y, V⟩
 clear hm hkont1; intro hk1 mx1 K ihx1
 rintro nx1 a g8 hm ⟨rfl, H⟩
 simp only [b8q] at hm
 refine a1l H (a0g (a0g (a0a (a0d Y Y Y (a0u Y Y Y Y Y (a0d Y Y Y ?_))))))
 obtain ⟨v1, k, hm⟩ := Yb hm
 refine a2g 7 (fun a w' => w = w' ∧ Has 23 a [(0, .slice o p g), (3, .int .i64 nx1), (15, .bool v1)]) ?_ ?_
 rintro a g9 ⟨rfl, I⟩
 refine a1d I (a0e (a0c ?_))
 rcases a0h hm with ⟨u, hm⟩ | ⟨u, hm⟩
 refine a0r 15 Y u (a0x Y (a1b (a0c (a1j (a0a (a0d Y Y Y (a0u Y Y Y Y Y (a0b Y Y Y (a0e (a1o (a0k (fun a ha => ihx1 (isub .i64 nx1 1) a _ hm ?_))))))))))))
 exact ⟨Y, ha.cut (l := [0, 3]) Y⟩
 refine a0r 15 Y u (a0p Y (a3p (a0w (a0w (fun a ha => hk1 nx1 a _ hm ?_)))))
 exact ⟨Y, ha.cut (l := [0, 3]) Y⟩
 clear hm
 rcases a0h k with ⟨x, k⟩ | ⟨x, k⟩
 refine a1k 8 Y x (a0d Y Y Y (a0d Y Y Y (a0u Y Y Y Y Y ?_)))
 obtain ⟨ex1, Z, k⟩ := Yb k
 refine a2r (r := (Rp.int .i64)) u28 sz3 Y Y Y Y t Z ?_
 intro b2 o1 g g0 g1
 have g2 : g = [.int .i64 ex1] := g1
 subst g2
 refine a2j (j := 0) ag3 Y Y h g0 Y Y (a0u Y Y Y Y Y (a0s Y Y Y Y (a0e (a0k (fun a ha => ?_)))))
 cases k
 exact ⟨Y, ha.cut (l := [0, 3, 15]) Y⟩
 refine a1k 8 Y x (a0y Y (by decide) Y (a0y Y (by decide) Y (a0y Y (by decide) Y (a0y Y (by decide) Y (a0y Y (by decide) Y (a0y Y (by decide) Y (a0m Y Y Y Y (a0e (a0k (fun a ha => ?_))))))))))
 cases k
 exact ⟨Y, ha.cut (l := [0, 3, 15]) Y⟩
theorem ent101 : Ent Tryz.prog 101 := fun _ _ => by kernel_rfl
def a6e (n : Nat) (sign1 : Int) (l1 : (List Int)) : Option Big :=
 (a4g n l1).bind fun v1 =>
 bif (v1.length : Int) == 0 then
  some (⟨0, []⟩ : Big)
 else
  some (⟨sign1, v1⟩ : Big)
theorem a6o (n : Nat) (sign1 : Int) (l1 : (List Int)) (r : Big) (hm : a6e n sign1 l1 = some r) {w : World} {F : Frz} (hs : Sat F w) {j : Option Addr} {k : Nat} {l : Nat} (y : SlR (Rp.int .i64) F j k l l1) :
  Calls Tryz.prog 70 #[.int .i64 sign1, .slice j k l] w fun e w' => ∃ v F' O', e = .returned v ∧ HS F w [] F' O' w' ∧ (∃ (a0_1 : Option Addr) (n0_1 : Nat) (c0_1 : Nat), v = .agg #[.int .i64 r.Sign, .slice a0_1 n0_1 c0_1] ∧ O' = [] ∧ SlR (Rp.int .i64) F' a0_1 n0_1 c0_1 r.Digits) := by
 unfold a6e at hm
 have h := HS.init hs
 refine a1a 15 Tryz.func70 Y Y Y (a0g (a0a (a1h ze35 Y Y Y h ?_)))
 intro b1 H m
 refine a0e (a0c (a0g (a0a (a0d Y Y Y ?_))))
 obtain ⟨v1, z, hm⟩ := Yb hm
 refine a0i ent101 Y Y Y Y m (a6q _ _ _ z m.sat y) ?_
 rintro _ I _ J K o ⟨p, q, s, xss2, rfl, rfl, t⟩
 refine a0b Y Y Y (a0e (a0c (a0g (a0g (a0a (a0d Y Y Y (a1y t.len u28 Y Y Y (a0u Y Y Y Y Y (a0e (a0c ?_))))))))))
 rcases a0h hm with ⟨g, hm⟩ | ⟨g, hm⟩
 refine a0r 10 Y g (a0x Y (a0g (a0a (a1r (v := .agg #[.int .i64 0, .slice none 0 0]) Y Y Y (fun _ => by kernel_rfl) (a0o sz35 Y o Y Y Y Y (i := 1) Y Y Y Y ?_)))))
 intro L u
 refine a0e (a0c (a1c (a0j (a3h Y ag35 sz35 Y u Y (i := 1) Y ?_))))
 obtain rfl := Yo hm
 exact ⟨_, _, _, Y, u.Yp [] Y Y, none, 0, 0, Y, Y, SlR.nil _ _⟩
 refine a0r 10 Y g (a0p Y (a1b (a0c (a0g (a0a (a0d Y Y Y (a0d Y Y Y ?_)))))))
 obtain ⟨M, N, G, hsx1⟩ := a1g o (i := 0) Y t
 refine a1r (v := .agg #[.int .i64 sign1, .slice p q s]) Y Y Y (fun _ => by kernel_rfl) (a0o sz35 Y G Y Y Y Y (i := 0) Y Y Y Y ?_)
 intro Q x
 refine a0e (a0c (a1c (a3h Y ag35 sz35 Y x Y (i := 0) Y ?_)))
 obtain rfl := Yo hm
 exact ⟨_, _, _, Y, x.Yp [] Y Y, p, q, s, Y, Y, hsx1⟩
theorem ent70 : Ent Tryz.prog 70 := fun _ _ => by kernel_rfl
def a9x (n : Nat) (kont1 : (List Int) → Option Big) : Nat → Int → (List Int) → Option Big
 | 0, _, _ => none
 | mx1 + 1, nx2, l1 =>
  bif nx2 != 0 then
   (rem nx2 1048576).bind fun q1 =>
   (bif decide (q1 < 0) then
    some (IntKind.i64.wrap (0 - q1))
   else
    some q1).bind fun d1 =>
   (app 8 l1 [d1]).bind fun l3 =>
   (quo .i64 nx2 1048576).bind fun q2 =>
   a9x n kont1 mx1 q2 l3
  else
   kont1 l1
theorem c2q (n : Nat) (kont1 : (List Int) → Option Big) (mx1 : Nat) (nx2 : Int) (l1 : List Int) : a9x n kont1 (mx1 + 1) nx2 l1 =
  bif nx2 != 0 then
   (rem nx2 1048576).bind fun q1 =>
   (bif decide (q1 < 0) then
    some (IntKind.i64.wrap (0 - q1))
   else
    some q1).bind fun d1 =>
   (app 8 l1 [d1]).bind fun l3 =>
   (quo .i64 nx2 1048576).bind fun q2 =>
   a9x n kont1 mx1 q2 l3
  else
   kont1 l1 := rfl
def b8j (n : Nat) (nx1 : Int) : Option Big :=
 bif nx1 == 0 then
  some (⟨0, []⟩ : Big)
 else
  (bif decide (nx1 < 0) then
   some (-1)
  else
   some 1).bind fun sign1 =>
  a9x n (fun (l2 : List Int) =>
   (a6e n sign1 l2).bind fun v1 =>
   some v1) n nx1 ([] : List Int)
theorem c0a (n : Nat) (nx1 : Int) (r : Big) (hm : b8j n nx1 = some r) {w : World} {F : Frz} (hs : Sat F w)  :
  Calls Tryz.prog 40 #[.int .i64 nx1] w fun e w' => ∃ v F' O', e = .returned v ∧ HS F w [] F' O' w' ∧ (∃ (a0_1 : Option Addr) (n0_1 : Nat) (c0_1 : Nat), v = .agg #[.int .i64 r.Sign, .slice a0_1 n0_1 c0_1] ∧ O' = [] ∧ SlR (Rp.int .i64) F' a0_1 n0_1 c0_1 r.Digits) := by
 unfold b8j at hm
 have h := HS.init hs
 refine a1a 28 Tryz.func40 Y Y Y (a0g (a0a (a1h ze35 Y Y Y h ?_)))
 intro b1 g6 N
 refine a0e (a0c (a0g (a0g (a0a (a0d Y Y Y (a0u Y Y Y Y Y (a0e (a0c ?_))))))))
 rcases a0h hm with ⟨G, hm⟩ | ⟨G, hm⟩
 refine a0r 7 Y G (a0x Y (a0g (a0a (a1r (v := .agg #[.int .i64 0, .slice none 0 0]) Y Y Y (fun _ => by kernel_rfl) (a0o sz35 Y N Y Y Y Y (i := 0) Y Y Y Y ?_)))))
 intro gn Q
 refine a0e (a0c (a1c (a0j (a3h Y ag35 sz35 Y Q Y (i := 0) Y ?_))))
 obtain rfl := Yo hm
 exact ⟨_, _, _, Y, Q.Yp [] Y Y, none, 0, 0, Y, Y, SlR.nil _ _⟩
 refine a0r 7 Y G (a0p Y (a1b (a0c (a0g (a0a (a0b Y Y Y (a0e (a0c (a0g (a0g (a0a (a0d Y Y Y (a0u Y Y Y Y Y (a0e (a0c ?_)))))))))))))))
 obtain ⟨sign1, k, hm⟩ := Yb hm
 refine a6f (fun a w' => g6 = w' ∧ Has 28 a [(0, .int .i64 nx1), (2, .pointer (some ⟨b1, 0, none⟩)), (3, .int .i64 sign1)]) ?_ ?_
 rintro a go ⟨rfl, g0⟩
 refine a1l g0 (a0g (a0a (a0b Y Y Y (a0e (a0c (a0g (a1j ?_)))))))
 have g7 := N.nilRow 3 1
 intro a g1
 obtain ⟨kont1, hkont1⟩ : ∃ kont1 : (List Int) → Option Big, kont1 = (fun (l2 : List Int) => (a6e n sign1 l2).bind fun v1 => some v1) := ⟨_, Y⟩
 replace hm : (fun m (s : Int × List Int) => a9x n kont1 m s.1 s.2) n (nx1, ([] : List Int)) = some r := by rw [hkont1]; exact hm
 refine a5j (id := 0) (fun m (s : Int × List Int) => a9x n kont1 m s.1 s.2) (fun (y : List Int) => kont1 y) r (fun (s : Int × List Int) a w' => ∃ (o : Frz) (p : Option Addr) (g : Nat) (t : Nat) (xss1 : List Value), Frz.le F o ∧ HS F w [] o [.row 3 1 p g t xss1, .box b1 35 [.int .i64 0, .slice none 0 0]] w' ∧ (RowN (Rp.int .i64) o g xss1 s.2) ∧ Has 28 a [(0, .int .i64 s.1), (2, .pointer (some ⟨b1, 0, none⟩)), (3, .int .i64 sign1), (4, .slice p g t)]) (fun (y : List Int) a w' => ∃ (x : Frz) (H : Option Addr) (z : Nat) (I : Nat) (xss2 : List Value), Frz.le F x ∧ HS F w [] x [.row 3 1 H z I xss2, .box b1 35 [.int .i64 0, .slice none 0 0]] w' ∧ (RowN (Rp.int .i64) x z xss2 y) ∧ Has 28 a [(2, .pointer (some ⟨b1, 0, none⟩)), (3, .int .i64 sign1), (4, .slice H z I)]) (fun _ => Y) ?_ ?_ hm ⟨_, none, 0, 0, [], Yf, g7.Yp [0, 1] Y Y, ((show RowN (Rp.int .i64) _ 0 [] [] from ⟨Y, Y⟩)), g1.cut (l := [0, 2, 3, 4]) Y⟩
 clear hm; rintro l2 a gp hm ⟨x, H, z, I, xss2, gq, g8, g9, g2⟩
 rw [hkont1] at hm
 replace hm := hm
 refine a2c (e := .exit 0) g2 (a1m (a0c (a0g (a0a (a0d Y Y Y (a0d Y Y Y ?_))))))
 obtain ⟨gr, gs, R, hsx1⟩ := a1g g8 (i := 0) Y g9
 obtain ⟨v1, ga, hm⟩ := Yb hm
 refine a0i ent70 Y Y Y Y R (a6o _ _ _ _ ga R.sat hsx1) ?_
 rintro _ gt _ gu gv gb ⟨gc, gd, ge, rfl, rfl, gf⟩
 refine a0o sz35 Y gb Y Y Y Y (i := 0) Y Y Y Y ?_
 intro gw T
 refine a0e (a0c (a1c (a3h Y ag35 sz35 Y T Y (i := 0) Y ?_)))
 obtain rfl := Yo hm
 exact ⟨_, _, _, Y, T.Yp [] Y Y, gc, gd, ge, Y, Y, gf⟩
 clear hm hkont1; intro hk1 mx1 K ihx1
 rintro ⟨nx2, l1⟩ a gg hm ⟨o, p, g, t, xss1, U, V, Z, g3⟩
 simp only [c2q] at hm
 refine a1l g3 (a0g (a0g (a0a (a0d Y Y Y (a0u Y Y Y Y Y (a0e (a0c ?_)))))))
 rcases a0h hm with ⟨J, hm⟩ | ⟨J, hm⟩
 refine a0r 12 Y J (a0x Y (a1b (a0c (a1j (a0g (a0a (a0d Y Y Y ?_)))))))
 obtain ⟨q1, hq1, hm⟩ := Yb hm
 refine c8b Y Y Y Y hq1 (a0b Y Y Y (a0e (a0c (a0g (a0g (a0a (a0d Y Y Y (a0u Y Y Y Y Y (a0e (a0c ?_))))))))))
 obtain ⟨d1, u, hm⟩ := Yb hm
 refine a6f (fun a w' => gg = w' ∧ Has 28 a [(0, .int .i64 nx2), (2, .pointer (some ⟨b1, 0, none⟩)), (3, .int .i64 sign1), (4, .slice p g t), (5, .int .i64 d1)]) ?_ ?_
 rintro a gx ⟨rfl, g4⟩
 refine a1l g4 (a0g (a0a (a0d Y Y Y (a0d Y Y Y (a1f (e := 3) (cs := [.int .i64 d1]) (q := 1) Y Y V Y (fun _ => by kernel_rfl) Y Y ?_)))))
 intro b2 gy gh
 obtain ⟨l3, gi, hm⟩ := Yb hm
 refine a4n (r := (Rp.int .i64)) ap28 Y Y gh Y Y (i := 1) (j := 0) Y Y Z ((show RowN (Rp.int .i64) o 1 [.int .i64 d1] [d1] from ⟨Y, ⟨_, _, Y, Y, (Y : RowR (Rp.int .i64) _ [] [])⟩⟩)) gi ?_
 intro gj gk gm g5 gl
 refine a0b Y Y Y (a0e (a0c (a0a (a0d Y Y Y ?_))))
 obtain ⟨q2, hq2, hm⟩ := Yb hm
 refine c7r Y Y Y Y hq2 (a0b Y Y Y (a0e (a1o (a0k (fun a ha => ihx1 (q2, l3) a _ hm ?_)))))
 exact ⟨_, gj, (g + 1), gk, (xss1 ++ [.int .i64 d1]), U, g5.Yp [1, 2] Y Y, gl, ha.cut (l := [0, 2, 3, 4]) Y⟩
 clear hm
 rcases a0h u with ⟨L, u⟩ | ⟨L, u⟩
 refine a0r 16 Y L (a0x Y (a0a (a0d Y Y Y (c7i Y Y Y (a0b Y Y Y (a0e (a0k (fun a ha => ?_))))))))
 cases u
 exact ⟨Y, ha.cut (l := [0, 2, 3, 4, 5]) Y⟩
 refine a0r 16 Y L (a0p Y (a1b (a0k (fun a ha => ?_))))
 cases u
 exact ⟨Y, ha.cut (l := [0, 2, 3, 4, 5]) Y⟩
 refine a0r 12 Y J (a0p Y (a3p (a0w (a0w (fun a ha => hk1 l1 a _ hm ?_)))))
 exact ⟨_, p, g, t, xss1, U, V.Yp [0, 1] Y Y, Z, ha.cut (l := [2, 3, 4]) Y⟩
 clear hm
 rcases a0h k with ⟨M, k⟩ | ⟨M, k⟩
 refine a0r 10 Y M (a0x Y (a0a (a0b Y Y Y (a0e (a0k (fun a ha => ?_))))))
 cases k
 exact ⟨Y, ha.cut (l := [0, 2, 3]) Y⟩
 refine a0r 10 Y M (a0p Y (a1b (a0k (fun a ha => ?_))))
 cases k
 exact ⟨Y, ha.cut (l := [0, 2, 3]) Y⟩
def a3j (_n : Nat) (l1 : (List Int)) (i1 : Int) : Option Int :=
 bif decide (i1 < (l1.length : Int)) then
  (ix l1 i1).bind fun ex1 =>
  some ex1
 else
  some 0
theorem a5e (n : Nat) (l1 : (List Int)) (i1 : Int) (r : Int) (hm : a3j n l1 i1 = some r) {w : World} {F : Frz} (hs : Sat F w) {k : Option Addr} {l : Nat} {g : Nat} (m : SlR (Rp.int .i64) F k l g l1) :
  Calls Tryz.prog 123 #[.slice k l g, .int .i64 i1] w fun e w' => e = .returned (.int .i64 r) ∧ w' = w := by
 unfold a3j at hm
 have h := HS.init hs
 refine a1a 13 Tryz.func123 Y Y Y (a0g (a0a (a0b Y Y Y (a0e (a0c (a0g (a0g (a0a (a0d Y Y Y (a0d Y Y Y (a1y m.len u28 Y Y Y (a0u Y Y Y Y Y (a0e (a0c ?_))))))))))))))
 rcases a0h hm with ⟨i, hm⟩ | ⟨i, hm⟩
 refine a0r 8 Y i (a0x Y (a0g (a0a (a0d Y Y Y (a0d Y Y Y ?_)))))
 obtain ⟨ex1, o, hm⟩ := Yb hm
 refine a2r (r := (Rp.int .i64)) u28 sz3 Y Y Y Y m o ?_
 intro b1 o1 g p q
 have s : g = [.int .i64 ex1] := q
 subst s
 refine a2j (j := 0) ag3 Y Y h p Y Y (a0b Y Y Y (a0e (a0c (a1c (a0j (a1n Y Y ?_))))))
 obtain rfl := Yo hm
 exact ⟨Y, Y⟩
 refine a0r 8 Y i (a0p Y (a1b (a0c (a0g (a0a (a0b Y Y Y (a0e (a0c (a1c (a1n Y Y ?_))))))))))
 obtain rfl := Yo hm
 exact ⟨Y, Y⟩
theorem ent123 : Ent Tryz.prog 123 := fun _ _ => by kernel_rfl
def a8f (n : Nat) (ax1 : (List Int)) (b1 : (List Int)) (kont1 : Option Bool) : Nat → Int → Option Bool
 | 0, _ => none
 | mx1 + 1, i1 =>
  bif decide (0 ≤ i1) then
   (a3j n ax1 i1).bind fun v1 =>
   (a3j n b1 i1).bind fun v2 =>
   bif v1 != v2 then
    (a3j n ax1 i1).bind fun v3 =>
    (a3j n b1 i1).bind fun v4 =>
    some (decide (v3 < v4))
   else
    a8f n ax1 b1 kont1 mx1 (isub .i64 i1 1)
  else
   kont1
theorem b8z (n : Nat) (ax1 : (List Int)) (b1 : (List Int)) (kont1 : Option Bool) (mx1 : Nat) (i1 : Int) : a8f n ax1 b1 kont1 (mx1 + 1) i1 =
  bif decide (0 ≤ i1) then
   (a3j n ax1 i1).bind fun v1 =>
   (a3j n b1 i1).bind fun v2 =>
   bif v1 != v2 then
    (a3j n ax1 i1).bind fun v3 =>
    (a3j n b1 i1).bind fun v4 =>
    some (decide (v3 < v4))
   else
    a8f n ax1 b1 kont1 mx1 (isub .i64 i1 1)
  else
   kont1 := rfl
def b5a (n : Nat) (ax1 : (List Int)) (b1 : (List Int)) : Option Bool :=
 a8f n ax1 b1 (
  some false) n (isub .i64 (imax (ax1.length : Int) (b1.length : Int)) 1)
theorem c2e (n : Nat) (ax1 : (List Int)) (b1 : (List Int)) (r : Bool) (hm : b5a n ax1 b1 = some r) {w : World} {F : Frz} (hs : Sat F w) {g i : Option Addr} {j k o p : Nat} (q : SlR (Rp.int .i64) F g j k ax1) (t : SlR (Rp.int .i64) F i o p b1) :
  Calls Tryz.prog 121 #[.slice g j k, .slice i o p] w fun e w' => e = .returned (.bool r) ∧ w' = w := by
 unfold b5a at hm
 have h := HS.init hs
 refine a1a 30 Tryz.func121 Y Y Y (a0g (a0a (a0b Y Y Y (a0e (a0c (a0g (a0g (a0a (a0d Y Y Y (a1y q.len u28 Y Y Y (a0d Y Y Y (a1y t.len u28 Y Y Y (d7w Y Y Y Y (a0u Y Y Y Y Y ?_))))))))))))))
 refine a0b Y Y Y (a0e (a0c (a1j ?_)))
 intro a x
 obtain ⟨kont1, hkont1⟩ : ∃ kont1 : Option Bool, kont1 = ( some false) := ⟨_, Y⟩
 replace hm : (fun m (s : Int) => a8f n ax1 b1 kont1 m s) n (isub .i64 (imax (ax1.length : Int) (b1.length : Int)) 1) = some r := by rw [hkont1]; exact hm
 refine a5j (id := 0) (fun m (s : Int) => a8f n ax1 b1 kont1 m s) (fun (y : Unit) => kont1) r (fun (s : Int) a w' => w = w' ∧ Has 30 a [(0, .slice g j k), (1, .slice i o p), (5, .int .i64 s)]) (fun (y : Unit) a w' => w = w' ∧ Has 30 a []) (fun _ => Y) ?_ ?_ hm ⟨Y, x.cut (l := [0, 1, 5]) Y⟩
 clear hm; rintro _u a M hm ⟨rfl, z⟩
 rw [hkont1] at hm
 refine a2c (e := .exit 0) z (a1m (a0c (a0g (a0a (a0b Y Y Y (a0e (a0c (a1c (a1n Y Y ?_)))))))))
 obtain rfl := Yo hm
 exact ⟨Y, Y⟩
 clear hm hkont1; intro hk1 mx1 K ihx1
 rintro i1 a N hm ⟨rfl, G⟩
 simp only [b8z] at hm
 refine a1l G (a0g (a0g (a0a (a0d Y Y Y (a0u Y Y Y Y Y (a0e (a0c ?_)))))))
 rcases a0h hm with ⟨u, hm⟩ | ⟨u, hm⟩
 refine a0r 13 Y u (a0x Y (a1b (a0c (a0g (a1j (a0g (a0a (a0d Y Y Y (a0d Y Y Y ?_)))))))))
 obtain ⟨v1, H, hm⟩ := Yb hm
 refine a2t ent123 Y Y Y Y (a5e _ _ _ _ H h.sat q) (a0d Y Y Y (a0d Y Y Y ?_))
 obtain ⟨v2, I, hm⟩ := Yb hm
 refine a2t ent123 Y Y Y Y (a5e _ _ _ _ I h.sat t) (a0u Y Y Y Y Y (a0e (a0c ?_)))
 rcases a0h hm with ⟨v, hm⟩ | ⟨v, hm⟩
 refine a0r 22 Y v (a0x Y (a0g (a0a (a0d Y Y Y (a0d Y Y Y ?_)))))
 obtain ⟨v3, J, hm⟩ := Yb hm
 refine a2t ent123 Y Y Y Y (a5e _ _ _ _ J h.sat q) (a0d Y Y Y (a0d Y Y Y ?_))
 obtain ⟨v4, L, hm⟩ := Yb hm
 refine a2t ent123 Y Y Y Y (a5e _ _ _ _ L h.sat t) (a0u Y Y Y Y Y (a0b Y Y Y (a0e (a0c (a1c (a0t (a0j (a0j (a0t (a0j (a1n Y Y ?_)))))))))))
 obtain rfl := Yo hm
 exact ⟨Y, Y⟩
 refine a0r 22 Y v (a0p Y (a1b (a1o (a0c (a0a (a0d Y Y Y (a0u Y Y Y Y Y (a0b Y Y Y (a0e (a0k (fun a ha => ihx1 (isub .i64 i1 1) a _ hm ?_)))))))))))
 exact ⟨Y, ha.cut (l := [0, 1, 5]) Y⟩
 refine a0r 13 Y u (a0p Y (a3p (a0w (a0w (fun a ha => hk1 () a _ hm ?_)))))
 exact ⟨Y, ha.cut (l := []) Y⟩
def a7y (n : Nat) (ax1 : (List Int)) (b1 : (List Int)) (kont1 : (List Int) → Option (List Int)) : Nat → Int → Int → (List Int) → Option (List Int)
 | 0, _, _, _ => none
 | mx1 + 1, carry1, i1, l1 =>
  (bif decide (i1 < (ax1.length : Int)) then
   some true
  else
   some (decide (i1 < (b1.length : Int)))).bind fun v2 =>
  (bif v2 then
   some true
  else
   some (decide (0 < carry1))).bind fun v3 =>
  bif v3 then
   (a3j n ax1 i1).bind fun v4 =>
   (a3j n b1 i1).bind fun v5 =>
   (rem (iadd .i64 (iadd .i64 v4 v5) carry1) 1048576).bind fun q1 =>
   (app 8 l1 [q1]).bind fun l3 =>
   (quo .i64 (iadd .i64 (iadd .i64 v4 v5) carry1) 1048576).bind fun q2 =>
   a7y n ax1 b1 kont1 mx1 q2 (iadd .i64 i1 1) l3
  else
   kont1 l1
theorem b9i (n : Nat) (ax1 : (List Int)) (b1 : (List Int)) (kont1 : (List Int) → Option (List Int)) (mx1 : Nat) (carry1 : Int) (i1 : Int) (l1 : List Int) : a7y n ax1 b1 kont1 (mx1 + 1) carry1 i1 l1 =
  (bif decide (i1 < (ax1.length : Int)) then
   some true
  else
   some (decide (i1 < (b1.length : Int)))).bind fun v2 =>
  (bif v2 then
   some true
  else
   some (decide (0 < carry1))).bind fun v3 =>
  bif v3 then
   (a3j n ax1 i1).bind fun v4 =>
   (a3j n b1 i1).bind fun v5 =>
   (rem (iadd .i64 (iadd .i64 v4 v5) carry1) 1048576).bind fun q1 =>
   (app 8 l1 [q1]).bind fun l3 =>
   (quo .i64 (iadd .i64 (iadd .i64 v4 v5) carry1) 1048576).bind fun q2 =>
   a7y n ax1 b1 kont1 mx1 q2 (iadd .i64 i1 1) l3
  else
   kont1 l1 := rfl
def b7b (n : Nat) (ax1 : (List Int)) (b1 : (List Int)) : Option (List Int) :=
 a7y n ax1 b1 (fun (l2 : List Int) =>
  (a4g n l2).bind fun v1 =>
  some v1) n 0 0 ([] : List Int)
theorem c2v (n : Nat) (ax1 : (List Int)) (b1 : (List Int)) (r : (List Int)) (hm : b7b n ax1 b1 = some r) {w : World} {F : Frz} (hs : Sat F w) {p t : Option Addr} {u x z G : Nat} (g0 : SlR (Rp.int .i64) F p u x ax1) (g1 : SlR (Rp.int .i64) F t z G b1) :
  Calls Tryz.prog 99 #[.slice p u x, .slice t z G] w fun e w' => ∃ v F' O', e = .returned v ∧ HS F w [] F' O' w' ∧ (∃ (a0_0 : Option Addr) (n0_0 : Nat) (c0_0 : Nat) (xs0_0 : List Value), v = .slice a0_0 n0_0 c0_0 ∧ O' = [.row 3 1 a0_0 n0_0 c0_0 xs0_0] ∧ RowN (Rp.int .i64) F' n0_0 xs0_0 r) := by
 unfold b7b at hm
 have h := HS.init hs
 refine a1a 43 Tryz.func99 Y Y Y (a0g (a0a (a0b Y Y Y (a0e (a0c (a0g (a0a (a0b Y Y Y (a0e (a0c (a0g (a0a (a0b Y Y Y (a0e (a0c (a0g (a0g (a0a (a0b Y Y Y (a0e (a0c (a1j ?_))))))))))))))))))))))
 have ga := h.nilRow 3 1
 intro a g5
 obtain ⟨kont1, hkont1⟩ : ∃ kont1 : (List Int) → Option (List Int), kont1 = (fun (l2 : List Int) => (a4g n l2).bind fun v1 => some v1) := ⟨_, Y⟩
 replace hm : (fun m (s : Int × Int × List Int) => a7y n ax1 b1 kont1 m s.1 s.2.1 s.2.2) n (0, 0, ([] : List Int)) = some r := by rw [hkont1]; exact hm
 refine a5j (id := 0) (fun m (s : Int × Int × List Int) => a7y n ax1 b1 kont1 m s.1 s.2.1 s.2.2) (fun (y : List Int) => kont1 y) r (fun (s : Int × Int × List Int) a w' => ∃ (H : Frz) (k : Option Addr) (g : Nat) (o : Nat) (xss3 : List Value), Frz.le F H ∧ HS F w [] H [.row 3 1 k g o xss3] w' ∧ (RowN (Rp.int .i64) H g xss3 s.2.2) ∧ Has 43 a [(0, .slice p u x), (1, .slice t z G), (5, .slice k g o), (6, .int .i64 s.1), (7, .int .i64 s.2.1)]) (fun (y : List Int) a w' => ∃ (L : Frz) (R : Option Addr) (M : Nat) (T : Nat) (xss4 : List Value), Frz.le F L ∧ HS F w [] L [.row 3 1 R M T xss4] w' ∧ (RowN (Rp.int .i64) L M xss4 y) ∧ Has 43 a [(5, .slice R M T)]) (fun _ => Y) ?_ ?_ hm ⟨_, none, 0, 0, [], Yf, ga.Yp [0] Y Y, ((show RowN (Rp.int .i64) _ 0 [] [] from ⟨Y, Y⟩)), g5.cut (l := [0, 1, 5, 6, 7]) Y⟩
 clear hm; rintro l2 a gr hm ⟨L, R, M, T, xss4, gs, gb, gc, g6⟩
 rw [hkont1] at hm
 replace hm := hm
 refine a2c (e := .exit 0) g6 (a1m (a0c (a0g (a0a (a0d Y Y Y ?_)))))
 obtain ⟨gt, gu, g2, hsx1⟩ := a1g gb (i := 0) Y gc
 obtain ⟨v1, gd, hm⟩ := Yb hm
 refine a0i ent101 Y Y Y Y g2 (a6q _ _ _ gd g2.sat hsx1) ?_
 rintro _ gv _ gw gx ge ⟨gf, gg, gh, xss5, rfl, rfl, gi⟩
 refine a0b Y Y Y (a0e (a0c (a1c (a1n Y Y ?_))))
 obtain rfl := Yo hm
 exact ⟨_, _, _, Y, ge.Yp [0] Y Y, gf, gg, gh, xss5, Y, Y, gi⟩
 clear hm hkont1; intro hk1 mx1 K ihx1
 rintro ⟨carry1, i1, l1⟩ a g3 hm ⟨H, k, g, o, xss3, N, Q, g4, g7⟩
 simp only [b9i] at hm
 refine a1l g7 (a0g (a0g (a0a (a0d Y Y Y (a0d Y Y Y (a1y g0.len u28 Y Y Y (a0u Y Y Y Y Y (a0d Y Y Y ?_))))))))
 obtain ⟨v2, I, hm⟩ := Yb hm
 refine a2g 5 (fun a w' => g3 = w' ∧ Has 43 a [(0, .slice p u x), (1, .slice t z G), (5, .slice k g o), (6, .int .i64 carry1), (7, .int .i64 i1), (18, .bool v2)]) ?_ ?_
 rintro a gy ⟨rfl, g8⟩
 refine a1d g8 (a0d Y Y Y ?_)
 obtain ⟨v3, J, hm⟩ := Yb hm
 refine a2g 3 (fun a w' => g3 = w' ∧ Has 43 a [(0, .slice p u x), (1, .slice t z G), (5, .slice k g o), (6, .int .i64 carry1), (7, .int .i64 i1), (22, .bool v3)]) ?_ ?_
 rintro a gz ⟨rfl, g9⟩
 refine a1d g9 (a0e (a0c ?_))
 rcases a0h hm with ⟨U, hm⟩ | ⟨U, hm⟩
 refine a0r 22 Y U (a0x Y (a1b (a0c (a0g (a1j (a0g (a0a (a0d Y Y Y (a0d Y Y Y ?_)))))))))
 obtain ⟨v4, gj, hm⟩ := Yb hm
 refine a2t ent123 Y Y Y Y (a5e _ _ _ _ gj Q.sat (g0.mono N)) (a0d Y Y Y (a0d Y Y Y ?_))
 obtain ⟨v5, gk, hm⟩ := Yb hm
 refine a2t ent123 Y Y Y Y (a5e _ _ _ _ gk Q.sat (g1.mono N)) (a0u Y Y Y Y Y (a0d Y Y Y (a0u Y Y Y Y Y (a0b Y Y Y (a0e (a0c (a0g (a0a (a0d Y Y Y (a0d Y Y Y ?_))))))))))
 obtain ⟨q1, hq1, hm⟩ := Yb hm
 refine c8b Y Y Y Y hq1 (a1f (e := 3) (cs := [.int .i64 q1]) (q := 1) Y Y Q Y (fun _ => by kernel_rfl) Y Y ?_)
 intro b2 h0 gl
 obtain ⟨l3, gm, hm⟩ := Yb hm
 refine a4n (r := (Rp.int .i64)) ap28 Y Y gl Y Y (i := 1) (j := 0) Y Y g4 ((show RowN (Rp.int .i64) H 1 [.int .i64 q1] [q1] from ⟨Y, ⟨_, _, Y, Y, (Y : RowR (Rp.int .i64) _ [] [])⟩⟩)) gm ?_
 intro gn go h1 gp gq
 refine a0b Y Y Y (a0e (a0c (a0a (a0d Y Y Y ?_))))
 obtain ⟨q2, hq2, hm⟩ := Yb hm
 refine c7r Y Y Y Y hq2 (a0b Y Y Y (a0e (a1o (a0c (a0a (a0d Y Y Y (a0u Y Y Y Y Y (a0b Y Y Y (a0e (a0k (fun a ha => ihx1 (q2, (iadd .i64 i1 1), l3) a _ hm ?_)))))))))))
 exact ⟨_, gn, (g + 1), go, (xss3 ++ [.int .i64 q1]), N, gp.Yp [1] Y Y, gq, ha.cut (l := [0, 1, 5, 6, 7]) Y⟩
 refine a0r 22 Y U (a0p Y (a3p (a0w (a0w (fun a ha => hk1 l1 a _ hm ?_)))))
 exact ⟨_, k, g, o, xss3, N, Q.Yp [0] Y Y, g4, ha.cut (l := [5]) Y⟩
 clear hm
 rcases a0h J with ⟨V, J⟩ | ⟨V, J⟩
 refine a1k 19 Y V (a0y Y (by decide) Y (a0y Y (by decide) Y (a0s Y Y Y Y (a0e (a0k (fun a ha => ?_))))))
 cases J
 exact ⟨Y, ha.cut (l := [0, 1, 5, 6, 7, 22]) Y⟩
 refine a1k 19 Y V (a0d Y Y Y (a0u Y Y Y Y Y (a0m Y Y Y Y (a0e (a0k (fun a ha => ?_))))))
 cases J
 exact ⟨Y, ha.cut (l := [0, 1, 5, 6, 7, 22]) Y⟩
 clear hm
 rcases a0h I with ⟨Z, I⟩ | ⟨Z, I⟩
 refine a1k 13 Y Z (a0y Y (by decide) Y (a0y Y (by decide) Y (a0y Y (by decide) Y (a0y Y (by decide) Y (a0s Y Y Y Y (a0e (a0k (fun a ha => ?_))))))))
 cases I
 exact ⟨Y, ha.cut (l := [0, 1, 5, 6, 7, 18]) Y⟩
 refine a1k 13 Y Z (a0d Y Y Y (a0d Y Y Y (a1y g1.len u28 Y Y Y (a0u Y Y Y Y Y (a0m Y Y Y Y (a0e (a0k (fun a ha => ?_))))))))
 cases I
 exact ⟨Y, ha.cut (l := [0, 1, 5, 6, 7, 18]) Y⟩
def a7e (n : Nat) (ax1 : (List Int)) (b1 : (List Int)) (kont1 : (List Int) → Option (List Int)) : Nat → Int → Int → (List Int) → Option (List Int)
 | 0, _, _, _ => none
 | mx1 + 1, borrow1, i1, l1 =>
  bif decide (i1 < (ax1.length : Int)) then
   (ix ax1 i1).bind fun ex1 =>
   (a3j n b1 i1).bind fun v2 =>
   (bif decide ((isub .i64 (isub .i64 ex1 v2) borrow1) < 0) then
    some (1, iadd .i64 (isub .i64 (isub .i64 ex1 v2) borrow1) 1048576)
   else
    some (0, isub .i64 (isub .i64 ex1 v2) borrow1)).bind fun (borrow2, nx1) =>
   (app 8 l1 [nx1]).bind fun l3 =>
   a7e n ax1 b1 kont1 mx1 borrow2 (iadd .i64 i1 1) l3
  else
   kont1 l1
theorem b7y (n : Nat) (ax1 : (List Int)) (b1 : (List Int)) (kont1 : (List Int) → Option (List Int)) (mx1 : Nat) (borrow1 : Int) (i1 : Int) (l1 : List Int) : a7e n ax1 b1 kont1 (mx1 + 1) borrow1 i1 l1 =
  bif decide (i1 < (ax1.length : Int)) then
   (ix ax1 i1).bind fun ex1 =>
   (a3j n b1 i1).bind fun v2 =>
   (bif decide ((isub .i64 (isub .i64 ex1 v2) borrow1) < 0) then
    some (1, iadd .i64 (isub .i64 (isub .i64 ex1 v2) borrow1) 1048576)
   else
    some (0, isub .i64 (isub .i64 ex1 v2) borrow1)).bind fun (borrow2, nx1) =>
   (app 8 l1 [nx1]).bind fun l3 =>
   a7e n ax1 b1 kont1 mx1 borrow2 (iadd .i64 i1 1) l3
  else
   kont1 l1 := rfl
def b0c (n : Nat) (ax1 : (List Int)) (b1 : (List Int)) : Option (List Int) :=
 a7e n ax1 b1 (fun (l2 : List Int) =>
  (a4g n l2).bind fun v1 =>
  some v1) n 0 0 ([] : List Int)
theorem b5f (n : Nat) (ax1 : (List Int)) (b1 : (List Int)) (r : (List Int)) (hm : b0c n ax1 b1 = some r) {w : World} {F : Frz} (hs : Sat F w) {u x : Option Addr} {z k G H : Nat} (V : SlR (Rp.int .i64) F u z k ax1) (g7 : SlR (Rp.int .i64) F x G H b1) :
  Calls Tryz.prog 100 #[.slice u z k, .slice x G H] w fun e w' => ∃ v F' O', e = .returned v ∧ HS F w [] F' O' w' ∧ (∃ (a0_0 : Option Addr) (n0_0 : Nat) (c0_0 : Nat) (xs0_0 : List Value), v = .slice a0_0 n0_0 c0_0 ∧ O' = [.row 3 1 a0_0 n0_0 c0_0 xs0_0] ∧ RowN (Rp.int .i64) F' n0_0 xs0_0 r) := by
 unfold b0c at hm
 have h := HS.init hs
 refine a1a 35 Tryz.func100 Y Y Y (a0g (a0a (a0b Y Y Y (a0e (a0c (a0g (a0a (a0b Y Y Y (a0e (a0c (a0g (a0a (a0b Y Y Y (a0e (a0c (a0g (a0g (a0a (a0b Y Y Y (a0e (a0c (a1j ?_))))))))))))))))))))))
 have g8 := h.nilRow 3 1
 intro a g3
 obtain ⟨kont1, hkont1⟩ : ∃ kont1 : (List Int) → Option (List Int), kont1 = (fun (l2 : List Int) => (a4g n l2).bind fun v1 => some v1) := ⟨_, Y⟩
 replace hm : (fun m (s : Int × Int × List Int) => a7e n ax1 b1 kont1 m s.1 s.2.1 s.2.2) n (0, 0, ([] : List Int)) = some r := by rw [hkont1]; exact hm
 refine a5j (id := 0) (fun m (s : Int × Int × List Int) => a7e n ax1 b1 kont1 m s.1 s.2.1 s.2.2) (fun (y : List Int) => kont1 y) r (fun (s : Int × Int × List Int) a w' => ∃ (I : Frz) (o : Option Addr) (g : Nat) (p : Nat) (xss3 : List Value), Frz.le F I ∧ HS F w [] I [.row 3 1 o g p xss3] w' ∧ (RowN (Rp.int .i64) I g xss3 s.2.2) ∧ Has 35 a [(0, .slice u z k), (1, .slice x G H), (5, .slice o g p), (6, .int .i64 s.1), (7, .int .i64 s.2.1)]) (fun (y : List Int) a w' => ∃ (J : Frz) (N : Option Addr) (L : Nat) (Q : Nat) (xss4 : List Value), Frz.le F J ∧ HS F w [] J [.row 3 1 N L Q xss4] w' ∧ (RowN (Rp.int .i64) J L xss4 y) ∧ Has 35 a [(5, .slice N L Q)]) (fun _ => Y) ?_ ?_ hm ⟨_, none, 0, 0, [], Yf, g8.Yp [0] Y Y, ((show RowN (Rp.int .i64) _ 0 [] [] from ⟨Y, Y⟩)), g3.cut (l := [0, 1, 5, 6, 7]) Y⟩
 clear hm; rintro l2 a gv hm ⟨J, N, L, Q, xss4, gw, g9, ga, g4⟩
 rw [hkont1] at hm
 replace hm := hm
 refine a2c (e := .exit 0) g4 (a1m (a0c (a0g (a0a (a0d Y Y Y ?_)))))
 obtain ⟨gx, gy, Z, hsx1⟩ := a1g g9 (i := 0) Y ga
 obtain ⟨v1, gb, hm⟩ := Yb hm
 refine a0i ent101 Y Y Y Y Z (a6q _ _ _ gb Z.sat hsx1) ?_
 rintro _ gz _ h0 h1 gc ⟨gd, ge, gf, xss5, rfl, rfl, gg⟩
 refine a0b Y Y Y (a0e (a0c (a1c (a1n Y Y ?_))))
 obtain rfl := Yo hm
 exact ⟨_, _, _, Y, gc.Yp [0] Y Y, gd, ge, gf, xss5, Y, Y, gg⟩
 clear hm hkont1; intro hk1 mx1 K ihx1
 rintro ⟨borrow1, i1, l1⟩ a h2 hm ⟨I, o, g, p, xss3, M, g0, g1, g5⟩
 simp only [b7y] at hm
 refine a1l g5 (a0g (a0g (a0a (a0d Y Y Y (a0d Y Y Y (a1y V.len u28 Y Y Y (a0u Y Y Y Y Y (a0e (a0c ?_)))))))))
 rcases a0h hm with ⟨R, hm⟩ | ⟨R, hm⟩
 refine a0r 12 Y R (a0x Y (a1b (a0c (a0g (a1j (a0g (a3n (by kernel_rfl) (by kernel_rfl) g0 (a1e Y Y Y Y (fun _ _ _ _ => a0d Y Y Y Yn) (a1e Y Y Y Y (fun _ _ _ _ => a0d Y Y Y Yn) ?_)))))))))
 obtain ⟨ex1, gh, hm⟩ := Yb hm
 obtain ⟨b2, o1, k, gi, gj, U⟩ := a2k (P := Tryz.prog) (r := (Rp.int .i64)) u28 sz3 (V.mono M) gh
 have gk : k = [.int .i64 ex1] := gj
 subst gk
 refine a2s Y Y Y Y U (a1e Y Y Y Y (fun _ _ hleq hq => a2j (j := 0) ag3 Y Y hq (gi.mono hleq) Y Y Yn) (a1e Y Y Y Y (fun _ _ _ _ => a0d Y Y Y Yn) (a1e Y Y Y Y (fun _ _ _ _ => a0d Y Y Y Yn) ?_)))
 obtain ⟨v2, gl, hm⟩ := Yb hm
 refine b1x ent123 Y Y Y Y (fun _ _ hleq hq => a5e _ _ _ _ gl hq.sat ((g7.mono M).mono hleq)) (a1e Y Y Y Y (fun _ _ _ _ => a0u Y Y Y Y Y Yn) (a1e Y Y Y Y (fun _ _ _ _ => a0d Y Y Y Yn) (a1e Y Y Y Y (fun _ _ _ _ => a0u Y Y Y Y Y Yn) (a1e Y Y Y Y (fun _ _ _ _ => a0b Y Y Y Yn) (b0z ?_)))))
 rintro gm ⟨gn, g2, go⟩
 refine a0c (a0g (a0a (a0b Y Y Y (a0e (a0c (a0g (a0g (a0a (a0d Y Y Y (a0u Y Y Y Y Y (a0e (a0c ?_))))))))))))
 obtain ⟨⟨borrow2, nx1⟩, t, hm⟩ := Yb hm
 refine a6f (fun a w' => gm = w' ∧ Has 35 a [(0, .slice u z k), (1, .slice x G H), (5, .slice o g p), (6, .int .i64 borrow2), (7, .int .i64 i1), (8, .int .i64 nx1)]) ?_ ?_
 rintro a h3 ⟨rfl, g6⟩
 refine a1l g6 (a0a (a0d Y Y Y (a0d Y Y Y (a1f (e := 3) (cs := [.int .i64 nx1]) (q := 1) Y Y go Y (fun _ => by kernel_rfl) Y Y ?_))))
 intro b3 h4 gp
 obtain ⟨l3, gq, hm⟩ := Yb hm
 refine a4n (r := (Rp.int .i64)) ap28 Y Y gp Y Y (i := 1) (j := 0) Y Y (g1.mono g2) ((show RowN (Rp.int .i64) gn 1 [.int .i64 nx1] [nx1] from ⟨Y, ⟨_, _, Y, Y, (Y : RowR (Rp.int .i64) _ [] [])⟩⟩)) gq ?_
 intro gr gs h5 gt gu
 refine a0b Y Y Y (a0e (a1o (a0c (a0a (a0d Y Y Y (a0u Y Y Y Y Y (a0b Y Y Y (a0e (a0k (fun a ha => ihx1 (borrow2, (iadd .i64 i1 1), l3) a _ hm ?_))))))))))
 exact ⟨_, gr, (g + 1), gs, (xss3 ++ [.int .i64 nx1]), (M.trans g2), gt.Yp [1] Y Y, gu, ha.cut (l := [0, 1, 5, 6, 7]) Y⟩
 clear hm
 rcases a0h t with ⟨T, t⟩ | ⟨T, t⟩
 refine a0r 26 Y T (a0x Y (a0g (a0a (a0d Y Y Y (a0u Y Y Y Y Y (a0b Y Y Y (a0e (a0c (a0a (a0b Y Y Y (a0e (a0k (fun a ha => ?_)))))))))))))
 cases t
 exact ⟨Y, ha.cut (l := [0, 1, 5, 6, 7, 8]) Y⟩
 refine a0r 26 Y T (a0p Y (a1b (a0k (fun a ha => ?_))))
 cases t
 exact ⟨Y, ha.cut (l := [0, 1, 5, 6, 7, 8]) Y⟩
 refine a0r 12 Y R (a0p Y (a3p (a0w (a0w (fun a ha => hk1 l1 a _ hm ?_)))))
 exact ⟨_, o, g, p, xss3, M, g0.Yp [0] Y Y, g1, ha.cut (l := [5]) Y⟩
def a5y (n : Nat) (ax1 : (List Int)) (b1 : (List Int)) (i1 : Int) (kont2 : (List Int) → Option (List Int)) : Nat → Int → Int → (List Int) → Option (List Int)
 | 0, _, _, _ => none
 | mx2 + 1, carry1, k1, l4 =>
  (bif decide (k1 < (b1.length : Int)) then
   some true
  else
   some (decide (0 < carry1))).bind fun v2 =>
  bif v2 then
   (ix l4 (iadd .i64 i1 k1)).bind fun ex1 =>
   (ix ax1 i1).bind fun ex2 =>
   (a3j n b1 k1).bind fun v3 =>
   (rem (iadd .i64 (iadd .i64 ex1 (imul .i64 ex2 v3)) carry1) 1048576).bind fun q1 =>
   (ix l4 (iadd .i64 i1 k1)).bind fun _ =>
   (lset l4 (iadd .i64 i1 k1) q1).bind fun l6 =>
   (quo .i64 (iadd .i64 (iadd .i64 ex1 (imul .i64 ex2 v3)) carry1) 1048576).bind fun q2 =>
   a5y n ax1 b1 i1 kont2 mx2 q2 (iadd .i64 k1 1) l6
  else
   kont2 l4
theorem b8e (n : Nat) (ax1 : (List Int)) (b1 : (List Int)) (i1 : Int) (kont2 : (List Int) → Option (List Int)) (mx2 : Nat) (carry1 : Int) (k1 : Int) (l4 : List Int) : a5y n ax1 b1 i1 kont2 (mx2 + 1) carry1 k1 l4 =
  (bif decide (k1 < (b1.length : Int)) then
   some true
  else
   some (decide (0 < carry1))).bind fun v2 =>
  bif v2 then
   (ix l4 (iadd .i64 i1 k1)).bind fun ex1 =>
   (ix ax1 i1).bind fun ex2 =>
   (a3j n b1 k1).bind fun v3 =>
   (rem (iadd .i64 (iadd .i64 ex1 (imul .i64 ex2 v3)) carry1) 1048576).bind fun q1 =>
   (ix l4 (iadd .i64 i1 k1)).bind fun _ =>
   (lset l4 (iadd .i64 i1 k1) q1).bind fun l6 =>
   (quo .i64 (iadd .i64 (iadd .i64 ex1 (imul .i64 ex2 v3)) carry1) 1048576).bind fun q2 =>
   a5y n ax1 b1 i1 kont2 mx2 q2 (iadd .i64 k1 1) l6
  else
   kont2 l4 := rfl
def a5z (n : Nat) (ax1 : (List Int)) (b1 : (List Int)) (kont1 : (List Int) → Option (List Int)) : Nat → Int → (List Int) → Option (List Int)
 | 0, _, _ => none
 | mx1 + 1, i1, l2 =>
  bif decide (i1 < (ax1.length : Int)) then
   a5y n ax1 b1 i1 (fun (l5 : List Int) =>
    a5z n ax1 b1 kont1 mx1 (iadd .i64 i1 1) l5) n 0 0 l2
  else
   kont1 l2
theorem b7x (n : Nat) (ax1 : (List Int)) (b1 : (List Int)) (kont1 : (List Int) → Option (List Int)) (mx1 : Nat) (i1 : Int) (l2 : List Int) : a5z n ax1 b1 kont1 (mx1 + 1) i1 l2 =
  bif decide (i1 < (ax1.length : Int)) then
   a5y n ax1 b1 i1 (fun (l5 : List Int) =>
    a5z n ax1 b1 kont1 mx1 (iadd .i64 i1 1) l5) n 0 0 l2
  else
   kont1 l2 := rfl
def a8w (n : Nat) (ax1 : (List Int)) (b1 : (List Int)) : Option (List Int) :=
 (mks 8 0 (iadd .i64 (ax1.length : Int) (b1.length : Int))).bind fun l1 =>
 a5z n ax1 b1 (fun (l3 : List Int) =>
  (a4g n l3).bind fun v1 =>
  some v1) n 0 l1
theorem b5j (n : Nat) (ax1 : (List Int)) (b1 : (List Int)) (r : (List Int)) (hm : a8w n ax1 b1 = some r) {w : World} {F : Frz} (hs : Sat F w) {t u : Option Addr} {x g z k : Nat} (g3 : SlR (Rp.int .i64) F t x g ax1) (g4 : SlR (Rp.int .i64) F u z k b1) :
  Calls Tryz.prog 122 #[.slice t x g, .slice u z k] w fun e w' => ∃ v F' O', e = .returned v ∧ HS F w [] F' O' w' ∧ (∃ (a0_0 : Option Addr) (n0_0 : Nat) (c0_0 : Nat) (xs0_0 : List Value), v = .slice a0_0 n0_0 c0_0 ∧ O' = [.row 3 1 a0_0 n0_0 c0_0 xs0_0] ∧ RowN (Rp.int .i64) F' n0_0 xs0_0 r) := by
 unfold a8w at hm
 have h := HS.init hs
 refine a1a 60 Tryz.func122 Y Y Y (a0g (a0a (a0b Y Y Y (a0e (a0c (a0g (a0a (a0d Y Y Y (a1y g3.len u28 Y Y Y (a0d Y Y Y (a1y g4.len u28 Y Y Y (a0u Y Y Y Y Y ?_))))))))))))
 obtain ⟨l1, gr, hm⟩ := Yb hm
 refine c1t (r := (Rp.int .i64)) ap28 zi3 (fun _ => Y) Y Y Y h Y Y gr ?_
 intro b2 hl xs1 gs gt
 refine a0b Y Y Y (a0e (a0c (a0g (a0g (a0a (a0b Y Y Y (a0e (a0c (a1j ?_)))))))))
 intro a gi
 obtain ⟨kont1, hkont1⟩ : ∃ kont1 : (List Int) → Option (List Int), kont1 = (fun (l3 : List Int) => (a4g n l3).bind fun v1 => some v1) := ⟨_, Y⟩
 replace hm : (fun m (s : Int × List Int) => a5z n ax1 b1 kont1 m s.1 s.2) n (0, l1) = some r := by rw [hkont1]; exact hm
 refine a5j (id := 0) (fun m (s : Int × List Int) => a5z n ax1 b1 kont1 m s.1 s.2) (fun (y : List Int) => kont1 y) r (fun (s : Int × List Int) a w' => ∃ (G : Frz) (L : Option Addr) (H : Nat) (o : Nat) (xss3 : List Value), Frz.le F G ∧ HS F w [] G [.row 3 1 L H o xss3] w' ∧ (RowN (Rp.int .i64) G H xss3 s.2) ∧ Has 60 a [(0, .slice t x g), (1, .slice u z k), (5, .slice L H o), (6, .int .i64 s.1)]) (fun (y : List Int) a w' => ∃ (Q : Frz) (g5 : Option Addr) (R : Nat) (g6 : Nat) (xss4 : List Value), Frz.le F Q ∧ HS F w [] Q [.row 3 1 g5 R g6 xss4] w' ∧ (RowN (Rp.int .i64) Q R xss4 y) ∧ Has 60 a [(5, .slice g5 R g6)]) (fun _ => Y) ?_ ?_ hm ⟨_, (some ⟨b2, 0, none⟩), ((iadd .i64 (ax1.length : Int) (b1.length : Int)).toNat), ((iadd .i64 (ax1.length : Int) (b1.length : Int)).toNat), xs1, Yf, gs.Yp [0] Y Y, gt, gi.cut (l := [0, 1, 5, 6]) Y⟩
 clear hm; rintro l3 a hn hm ⟨Q, g5, R, g6, xss4, ho, gu, gv, gj⟩
 rw [hkont1] at hm
 replace hm := hm
 refine a2c (e := .exit 0) gj (a1m (a0c (a0g (a0a (a0d Y Y Y ?_)))))
 obtain ⟨hp, hr, ge, hsx1⟩ := a1g gu (i := 0) Y gv
 obtain ⟨v1, gw, hm⟩ := Yb hm
 refine a0i ent101 Y Y Y Y ge (a6q _ _ _ gw ge.sat hsx1) ?_
 rintro _ ht _ hu hv gx ⟨gy, gz, h0, xss5, rfl, rfl, h1⟩
 refine a0b Y Y Y (a0e (a0c (a1c (a1n Y Y ?_))))
 obtain rfl := Yo hm
 exact ⟨_, _, _, Y, gx.Yp [0] Y Y, gy, gz, h0, xss5, Y, Y, h1⟩
 clear hm hkont1; intro hk1 mx1 K ihx1
 rintro ⟨i1, l2⟩ a hw hm ⟨G, L, H, o, xss3, T, gf, gg, gk⟩
 simp only [b7x] at hm
 refine a1l gk (a0g (a0g (a0a (a0d Y Y Y (a0d Y Y Y (a1y g3.len u28 Y Y Y (a0u Y Y Y Y Y (a0e (a0c ?_)))))))))
 rcases a0h hm with ⟨g7, hm⟩ | ⟨g7, hm⟩
 refine a0r 19 Y g7 (a0x Y (a1b (a0c (a0g (a1j (a0g (a0a (a0b Y Y Y (a0e (a0c (a0g (a0a (a0b Y Y Y (a0e (a0c (a1j ?_))))))))))))))))
 intro a gl
 obtain ⟨kont2, hkont2⟩ : ∃ kont2 : (List Int) → Option (List Int), kont2 = (fun (l5 : List Int) => a5z n ax1 b1 kont1 mx1 (iadd .i64 i1 1) l5) := ⟨_, Y⟩
 replace hm : (fun m (s : Int × Int × List Int) => a5y n ax1 b1 i1 kont2 m s.1 s.2.1 s.2.2) n (0, 0, l2) = some r := by rw [hkont2]; exact hm
 refine a5j (id := 2) (fun m (s : Int × Int × List Int) => a5y n ax1 b1 i1 kont2 m s.1 s.2.1 s.2.2) (fun (y : List Int) => kont2 y) r (fun (s : Int × Int × List Int) a w' => ∃ (U : Frz) (I : Option Addr) (q : Nat) (J : Nat) (xss6 : List Value), Frz.le G U ∧ HS F w [] U [.row 3 1 I q J xss6] w' ∧ (RowN (Rp.int .i64) U q xss6 s.2.2) ∧ Has 60 a [(0, .slice t x g), (1, .slice u z k), (5, .slice I q J), (6, .int .i64 i1), (7, .int .i64 s.1), (8, .int .i64 s.2.1)]) (fun (y : List Int) a w' => ∃ (V : Frz) (Z : Option Addr) (M : Nat) (g0 : Nat) (xss7 : List Value), Frz.le G V ∧ HS F w [] V [.row 3 1 Z M g0 xss7] w' ∧ (RowN (Rp.int .i64) V M xss7 y) ∧ Has 60 a [(0, .slice t x g), (1, .slice u z k), (5, .slice Z M g0), (6, .int .i64 i1)]) (fun _ => Y) ?_ ?_ hm ⟨_, L, H, o, xss3, Yf, gf.Yp [0] Y Y, gg, gl.cut (l := [0, 1, 5, 6, 7, 8]) Y⟩
 clear hm; rintro l5 a hx hm ⟨V, Z, M, g0, xss7, h2, h3, h4, gm⟩
 rw [hkont2] at hm
 replace hm := hm
 refine a2c (e := .exit 2) gm (a1m (a1o (a0c (a0a (a0d Y Y Y (a0u Y Y Y Y Y (a0b Y Y Y (a0e (a0k (fun a ha => ihx1 ((iadd .i64 i1 1), l5) a _ hm ?_))))))))))
 exact ⟨_, Z, M, g0, xss7, (T.trans h2), h3.Yp [0] Y Y, h4, ha.cut (l := [0, 1, 5, 6]) Y⟩
 clear hm hkont2; intro hk2 mx2 K ihx2
 rintro ⟨carry1, k1, l4⟩ a h5 hm ⟨U, I, q, J, xss6, g1, g8, g2, gn⟩
 simp only [b8e] at hm
 refine a1l gn (a0g (a0g (a0a (a0d Y Y Y (a0d Y Y Y (a1y g4.len u28 Y Y Y (a0u Y Y Y Y Y (a0d Y Y Y ?_))))))))
 obtain ⟨v2, N, hm⟩ := Yb hm
 refine a2g 3 (fun a w' => h5 = w' ∧ Has 60 a [(0, .slice t x g), (1, .slice u z k), (5, .slice I q J), (6, .int .i64 i1), (7, .int .i64 carry1), (8, .int .i64 k1), (29, .bool v2)]) ?_ ?_
 rintro a hy ⟨rfl, go⟩
 refine a1d go (a0e (a0c ?_))
 rcases a0h hm with ⟨g9, hm⟩ | ⟨g9, hm⟩
 refine a0r 29 Y g9 (a0x Y (a1b (a0c (a0g (a1j (a0g (a3n (by kernel_rfl) (by kernel_rfl) g8 (a1e Y Y Y Y (fun _ _ _ _ => a0d Y Y Y Yn) (a1e Y Y Y Y (fun _ _ _ _ => a0d Y Y Y Yn) (a1e Y Y Y Y (fun _ _ _ _ => a0d Y Y Y Yn) (a1e Y Y Y Y (fun _ _ _ _ => a0u Y Y Y Y Y Yn) ?_)))))))))))
 obtain ⟨ex1, h6, hm⟩ := Yb hm
 obtain ⟨b3, o1, g, gp, ho1, h7, hp1, gc⟩ := a7c (P := Tryz.prog) (r := (Rp.int .i64)) u28 sz3 g8 (p := 0) Y Y g2 h6
 have h8 : g = [.int .i64 ex1] := h7
 subst h8
 refine a2s Y Y Y Y gc (a1e Y Y Y Y (fun _ _ _ hq => a4q (j := 0) ag3 Y Y hq Y (p := 0) Y Y gp ho1 hp1 Y Yn) (a1e Y Y Y Y (fun _ _ _ _ => a0d Y Y Y Yn) (a1e Y Y Y Y (fun _ _ _ _ => a0d Y Y Y Yn) ?_)))
 obtain ⟨ex2, h9, hm⟩ := Yb hm
 obtain ⟨b4, o2, k, hb, hc, gd⟩ := a2k (P := Tryz.prog) (r := (Rp.int .i64)) u28 sz3 ((g3.mono T).mono g1) h9
 have hd : k = [.int .i64 ex2] := hc
 subst hd
 refine a2s Y Y Y Y gd (a1e Y Y Y Y (fun _ _ hleq hq => a2j (j := 0) ag3 Y Y hq (hb.mono hleq) Y Y Yn) (a1e Y Y Y Y (fun _ _ _ _ => a0d Y Y Y Yn) (a1e Y Y Y Y (fun _ _ _ _ => a0d Y Y Y Yn) ?_)))
 obtain ⟨v3, he, hm⟩ := Yb hm
 refine b1x ent123 Y Y Y Y (fun _ _ hleq hq => a5e _ _ _ _ he hq.sat (((g4.mono T).mono g1).mono hleq)) (a1e Y Y Y Y (fun _ _ _ _ => a0u Y Y Y Y Y Yn) (a1e Y Y Y Y (fun _ _ _ _ => a0u Y Y Y Y Y Yn) (a1e Y Y Y Y (fun _ _ _ _ => a0d Y Y Y Yn) (a1e Y Y Y Y (fun _ _ _ _ => a0u Y Y Y Y Y Yn) (a1e Y Y Y Y (fun _ _ _ _ => a0b Y Y Y Yn) (b0z ?_))))))
 rintro hz ⟨i0, ga, gh⟩
 refine a0c (a0g (a0a (a0d Y Y Y (a0d Y Y Y (a0d Y Y Y (a0u Y Y Y Y Y (a0d Y Y Y ?_)))))))
 obtain ⟨q1, hq1, hm⟩ := Yb hm
 refine c8b Y Y Y Y hq1 ?_
 obtain ⟨ex3, hf, hm⟩ := Yb hm
 refine a4y (r := (Rp.int .i64)) u28 sz3 Y Y gh Y Y (p := 0) Y Y (g2.mono ga) hf ?_
 intro b5 o3 o gq ho2 hg hp2
 have hh : o = [.int .i64 ex3] := hg
 subst hh
 obtain ⟨l6, hi, hm⟩ := Yb hm
 refine a7m (r := (Rp.int .i64)) sz3 Y gh Y Y Y Y Y (p := 0) Y Y gq ho2 (g2.mono ga) Y Y hi ?_
 intro i2 xs2 hj hk
 refine a0e (a0c (a0a (a0d Y Y Y ?_)))
 obtain ⟨q2, hq2, hm⟩ := Yb hm
 refine c7r Y Y Y Y hq2 (a0b Y Y Y (a0e (a1o (a0c (a0a (a0d Y Y Y (a0u Y Y Y Y Y (a0b Y Y Y (a0e (a0k (fun a ha => ihx2 (q2, (iadd .i64 k1 1), l6) a _ hm ?_)))))))))))
 exact ⟨_, I, q, J, xs2, (g1.trans ga), hj.Yp [0] Y Y, hk, ha.cut (l := [0, 1, 5, 6, 7, 8]) Y⟩
 refine a0r 29 Y g9 (a0p Y (a3p (a0w (a0w (fun a ha => hk2 l4 a _ hm ?_)))))
 exact ⟨_, I, q, J, xss6, g1, g8.Yp [0] Y Y, g2, ha.cut (l := [0, 1, 5, 6]) Y⟩
 clear hm
 rcases a0h N with ⟨gb, N⟩ | ⟨gb, N⟩
 refine a1k 26 Y gb (a0y Y (by decide) Y (a0y Y (by decide) Y (a0s Y Y Y Y (a0e (a0k (fun a ha => ?_))))))
 cases N
 exact ⟨Y, ha.cut (l := [0, 1, 5, 6, 7, 8, 29]) Y⟩
 refine a1k 26 Y gb (a0d Y Y Y (a0u Y Y Y Y Y (a0m Y Y Y Y (a0e (a0k (fun a ha => ?_))))))
 cases N
 exact ⟨Y, ha.cut (l := [0, 1, 5, 6, 7, 8, 29]) Y⟩
 refine a0r 19 Y g7 (a0p Y (a3p (a0w (a0w (fun a ha => hk1 l2 a _ hm ?_)))))
 exact ⟨_, L, H, o, xss3, T, gf.Yp [0] Y Y, gg, ha.cut (l := [5]) Y⟩
theorem ent122 : Ent Tryz.prog 122 := fun _ _ => by kernel_rfl
theorem ent100 : Ent Tryz.prog 100 := fun _ _ => by kernel_rfl
theorem ent121 : Ent Tryz.prog 121 := fun _ _ => by kernel_rfl
def a4z (n : Nat) (b1 : (List Int)) (v2 : (List Int)) (kont2 : Int → Option ((List Int) × (List Int))) : Nat → Int → Int → Option ((List Int) × (List Int))
 | 0, _, _ => none
 | mx2 + 1, lo1, hi1 =>
  bif decide (1 < (isub .i64 hi1 lo1)) then
   (quo .i64 (iadd .i64 lo1 hi1) 2).bind fun q1 =>
   (a8w n b1 [q1]).bind fun v6 =>
   (b5a n v2 v6).bind fun v7 =>
   bif v7 then
    a4z n b1 v2 kont2 mx2 lo1 q1
   else
    a4z n b1 v2 kont2 mx2 q1 hi1
  else
   kont2 lo1
theorem c0n (n : Nat) (b1 : (List Int)) (v2 : (List Int)) (kont2 : Int → Option ((List Int) × (List Int))) (mx2 : Nat) (lo1 : Int) (hi1 : Int) : a4z n b1 v2 kont2 (mx2 + 1) lo1 hi1 =
  bif decide (1 < (isub .i64 hi1 lo1)) then
   (quo .i64 (iadd .i64 lo1 hi1) 2).bind fun q1 =>
   (a8w n b1 [q1]).bind fun v6 =>
   (b5a n v2 v6).bind fun v7 =>
   bif v7 then
    a4z n b1 v2 kont2 mx2 lo1 q1
   else
    a4z n b1 v2 kont2 mx2 q1 hi1
  else
   kont2 lo1 := rfl
def a6u (n : Nat) (ax1 : (List Int)) (b1 : (List Int)) (kont1 : (List Int) → (List Int) → Option ((List Int) × (List Int))) : Nat → (List Int) → Int → (List Int) → Option ((List Int) × (List Int))
 | 0, _, _, _ => none
 | mx1 + 1, rx1, i1, l2 =>
  bif decide (0 ≤ i1) then
   (ix ax1 i1).bind fun ex1 =>
   (app 8 [ex1] rx1).bind fun l4 =>
   (a4g n l4).bind fun v2 =>
   a4z n b1 v2 (fun (lo2 : Int) =>
    (ix l2 i1).bind fun _ =>
    (lset l2 i1 lo2).bind fun l5 =>
    (a4g n [lo2]).bind fun v3 =>
    (a8w n b1 v3).bind fun v4 =>
    (b0c n v2 v4).bind fun v5 =>
    a6u n ax1 b1 kont1 mx1 v5 (isub .i64 i1 1) l5) n 0 1048576
  else
   kont1 rx1 l2
theorem b8s (n : Nat) (ax1 : (List Int)) (b1 : (List Int)) (kont1 : (List Int) → (List Int) → Option ((List Int) × (List Int))) (mx1 : Nat) (rx1 : (List Int)) (i1 : Int) (l2 : List Int) : a6u n ax1 b1 kont1 (mx1 + 1) rx1 i1 l2 =
  bif decide (0 ≤ i1) then
   (ix ax1 i1).bind fun ex1 =>
   (app 8 [ex1] rx1).bind fun l4 =>
   (a4g n l4).bind fun v2 =>
   a4z n b1 v2 (fun (lo2 : Int) =>
    (ix l2 i1).bind fun _ =>
    (lset l2 i1 lo2).bind fun l5 =>
    (a4g n [lo2]).bind fun v3 =>
    (a8w n b1 v3).bind fun v4 =>
    (b0c n v2 v4).bind fun v5 =>
    a6u n ax1 b1 kont1 mx1 v5 (isub .i64 i1 1) l5) n 0 1048576
  else
   kont1 rx1 l2 := rfl
def b2y (n : Nat) (ax1 : (List Int)) (b1 : (List Int)) : Option ((List Int) × (List Int)) :=
 (mks 8 0 (ax1.length : Int)).bind fun l1 =>
 a6u n ax1 b1 (fun (rx2 : (List Int)) (l3 : List Int) =>
  (a4g n l3).bind fun v1 =>
  some (v1, rx2)) n [] (isub .i64 (ax1.length : Int) 1) l1
theorem b6m (n : Nat) (ax1 : (List Int)) (b1 : (List Int)) (r : ((List Int) × (List Int))) (hm : b2y n ax1 b1 = some r) {w : World} {F : Frz} (hs : Sat F w) {J L : Option Addr} {M t N u : Nat} (gh : SlR (Rp.int .i64) F J M t ax1) (gx : SlR (Rp.int .i64) F L N u b1) :
  Calls Tryz.prog 98 #[.slice J M t, .slice L N u] w fun e w' => ∃ v F' O', e = .returned v ∧ HS F w [] F' O' w' ∧ (∃ (a0_0 : Option Addr) (n0_0 : Nat) (c0_0 : Nat) (xs0_0 : List Value) (a1_0 : Option Addr) (n1_0 : Nat) (c1_0 : Nat), v = .tuple #[.slice a0_0 n0_0 c0_0, .slice a1_0 n1_0 c1_0] ∧ O' = [.row 3 1 a0_0 n0_0 c0_0 xs0_0] ∧ RowN (Rp.int .i64) F' n0_0 xs0_0 r.1 ∧ SlR (Rp.int .i64) F' a1_0 n1_0 c1_0 r.2) := by
 unfold b2y at hm
 have h := HS.init hs
 refine a1a 60 Tryz.func98 Y Y Y (a0g (a0a (a0b Y Y Y (a0b Y Y Y (a0e (a0c (a0g (a0a (a0d Y Y Y (a1y gh.len u28 Y Y Y ?_))))))))))
 obtain ⟨l1, hv, hm⟩ := Yb hm
 refine c1t (r := (Rp.int .i64)) ap28 zi3 (fun _ => Y) Y Y Y h Y Y hv ?_
 intro b2 jn xs1 hw hx
 refine a0b Y Y Y (a0e (a0c (a0g (a0a (a0b Y Y Y (a0e (a0c (a0g (a0g (a0a (a0d Y Y Y (a1y gh.len u28 Y Y Y (a0u Y Y Y Y Y (a0b Y Y Y (a0e (a0c (a1j ?_)))))))))))))))))
 intro a h6
 obtain ⟨kont1, hkont1⟩ : ∃ kont1 : (List Int) → (List Int) → Option ((List Int) × (List Int)), kont1 = (fun (rx2 : (List Int)) (l3 : List Int) => (a4g n l3).bind fun v1 => some (v1, rx2)) := ⟨_, Y⟩
 replace hm : (fun m (s : (List Int) × Int × List Int) => a6u n ax1 b1 kont1 m s.1 s.2.1 s.2.2) n ([], (isub .i64 (ax1.length : Int) 1), l1) = some r := by rw [hkont1]; exact hm
 refine a5j (id := 0) (fun m (s : (List Int) × Int × List Int) => a6u n ax1 b1 kont1 m s.1 s.2.1 s.2.2) (fun (y : (List Int) × List Int) => kont1 y.1 y.2) r (fun (s : (List Int) × Int × List Int) a w' => ∃ (x : Frz) (g7 : Option Addr) (g8 : Nat) (g9 : Nat) (k : Option Addr) (g : Nat) (o : Nat) (xss4 : List Value), Frz.le F x ∧ HS F w [] x [.row 3 1 k g o xss4] w' ∧ (SlR (Rp.int .i64) x g7 g8 g9 s.1) ∧ (RowN (Rp.int .i64) x g xss4 s.2.2) ∧ Has 60 a [(0, .slice J M t), (1, .slice L N u), (6, .slice k g o), (7, .slice g7 g8 g9), (8, .int .i64 s.2.1)]) (fun (y : (List Int) × List Int) a w' => ∃ (Q : Frz) (R : Option Addr) (T : Nat) (U : Nat) (gi : Option Addr) (ga : Nat) (gj : Nat) (xss6 : List Value), Frz.le F Q ∧ HS F w [] Q [.row 3 1 gi ga gj xss6] w' ∧ (SlR (Rp.int .i64) Q R T U y.1) ∧ (RowN (Rp.int .i64) Q ga xss6 y.2) ∧ Has 60 a [(6, .slice gi ga gj), (7, .slice R T U)]) (fun _ => Y) ?_ ?_ hm ⟨_, none, 0, 0, (some ⟨b2, 0, none⟩), ((ax1.length : Int).toNat), ((ax1.length : Int).toNat), xs1, Yf, hw.Yp [0] Y Y, SlR.nil _ _, hx, h6.cut (l := [0, 1, 6, 7, 8]) Y⟩
 clear hm; rintro ⟨rx2, l3⟩ a jo hm ⟨Q, R, T, U, gi, ga, gj, xss6, jp, hy, hz, i0, h7⟩
 rw [hkont1] at hm
 replace hm := hm
 refine a2c (e := .exit 0) h7 (a1m (a0c (a0g (a0a (a0d Y Y Y ?_)))))
 obtain ⟨jq, i2, gy, hsx1⟩ := a1g hy (i := 0) Y i0
 obtain ⟨v1, i3, hm⟩ := Yb hm
 refine a0i ent101 Y Y Y Y gy (a6q _ _ _ i3 gy.sat hsx1) ?_
 rintro _ jr _ js i4 i5 ⟨gz, h0, h1, xss7, rfl, rfl, i6⟩
 refine a0d Y Y Y (a0b Y Y Y (a0b Y Y Y (a0e (a0c (a1c (a1q (vl := [.slice gz h0 h1, .slice R T U]) Y ⟨a1p Y, a1p Y, trivial⟩ (by simp) ?_))))))
 obtain rfl := Yo hm
 exact ⟨_, _, _, Y, i5.Yp [0] Y Y, gz, h0, h1, xss7, R, T, U, Y, Y, i6, ((hz.mono i2).mono i4)⟩
 clear hm hkont1; intro hk1 mx1 K ihx1
 rintro ⟨rx1, i1, l2⟩ a jt hm ⟨x, g7, g8, g9, k, g, o, xss4, V, gk, h2, gl, h8⟩
 simp only [b8s] at hm
 refine a1l h8 (a0g (a0g (a0a (a0d Y Y Y (a0u Y Y Y Y Y (a0e (a0c ?_)))))))
 rcases a0h hm with ⟨gm, hm⟩ | ⟨gm, hm⟩
 refine a0r 19 Y gm (a0x Y (a1b (a0c (a0g (a1j (a0g (a0a (a0d Y Y Y (a0d Y Y Y ?_)))))))))
 obtain ⟨ex1, i7, hm⟩ := Yb hm
 refine a2r (r := (Rp.int .i64)) u28 sz3 Y Y Y Y (gh.mono V) i7 ?_
 intro b3 o1 t i8 i9
 have ia : t = [.int .i64 ex1] := i9
 subst ia
 refine a2j (j := 0) ag3 Y Y gk i8 Y Y (a1f (e := 3) (cs := [.int .i64 ex1]) (q := 1) Y Y gk Y (fun _ => by kernel_rfl) Y Y ?_)
 intro b4 ju ib
 refine a0d Y Y Y ?_
 obtain ⟨l4, ic, hm⟩ := Yb hm
 refine b6d (r := (Rp.int .i64)) ap28 Y Y Y ib Y Y (i := 0) Y ((show RowN (Rp.int .i64) x 1 [.int .i64 ex1] [ex1] from ⟨Y, ⟨_, _, Y, Y, (Y : RowR (Rp.int .i64) _ [] [])⟩⟩)) h2 ic ?_
 intro jv jw jx xss8 ie ig
 obtain ⟨jy, Z, h3, hsx2⟩ := a1g ie (i := 0) Y ig
 obtain ⟨v2, ih, hm⟩ := Yb hm
 refine a0i ent101 Y Y Y Y h3 (a6q _ _ _ ih h3.sat hsx2) ?_
 rintro _ h4 _ jz g0 ii ⟨gb, gc, gd, xss9, rfl, rfl, h5⟩
 refine a0b Y Y Y (a0e (a0c (a0g (a0a (a0b Y Y Y (a0e (a0c (a0g (a0a (a0b Y Y Y (a0e (a0c (a0g (a1j ?_))))))))))))))
 intro a h9
 obtain ⟨kont2, hkont2⟩ : ∃ kont2 : Int → Option ((List Int) × (List Int)), kont2 = (fun (lo2 : Int) => (ix l2 i1).bind fun ex2 => (lset l2 i1 lo2).bind fun l5 => (a4g n [lo2]).bind fun v3 => (a8w n b1 v3).bind fun v4 => (b0c n v2 v4).bind fun v5 => a6u n ax1 b1 kont1 mx1 v5 (isub .i64 i1 1) l5) := ⟨_, Y⟩
 replace hm : (fun m (s : Int × Int) => a4z n b1 v2 kont2 m s.1 s.2) n (0, 1048576) = some r := by rw [hkont2]; exact hm
 refine a5j (id := 2) (fun m (s : Int × Int) => a4z n b1 v2 kont2 m s.1 s.2) (fun (y : Int) => kont2 y) r (fun (s : Int × Int) a w' => ∃ (ge : Frz), Frz.le h4 ge ∧ HS F w [] ge [.row 3 1 gb gc gd xss9, .row 3 1 k g o xss4] w' ∧ Has 60 a [(0, .slice J M t), (1, .slice L N u), (6, .slice k g o), (7, .slice gb gc gd), (8, .int .i64 i1), (9, .int .i64 s.1), (10, .int .i64 s.2)]) (fun (y : Int) a w' => ∃ (gf : Frz), Frz.le h4 gf ∧ HS F w [] gf [.row 3 1 gb gc gd xss9, .row 3 1 k g o xss4] w' ∧ Has 60 a [(0, .slice J M t), (1, .slice L N u), (6, .slice k g o), (7, .slice gb gc gd), (8, .int .i64 i1), (9, .int .i64 y)]) (fun _ => Y) ?_ ?_ hm ⟨_, Yf, ii.Yp [0, 1] Y Y, h9.cut (l := [0, 1, 6, 7, 8, 9, 10]) Y⟩
 clear hm; rintro lo2 a k0 hm ⟨gf, g1, gn, hb⟩
 rw [hkont2] at hm
 replace hm := hm
 refine a2c (e := .exit 2) hb (a1m (a0c (a0g (a0a (a0d Y Y Y (a0d Y Y Y (a0d Y Y Y ?_)))))))
 obtain ⟨ex2, ij, hm⟩ := Yb hm
 refine a4y (r := (Rp.int .i64)) u28 sz3 Y Y gn Y Y (p := 1) Y Y (((gl.mono Z).mono g0).mono g1) ij ?_
 intro b5 o2 u hc ho1 ik hp1
 have il : u = [.int .i64 ex2] := ik
 subst il
 obtain ⟨l5, im, hm⟩ := Yb hm
 refine a7m (r := (Rp.int .i64)) sz3 Y gn Y Y Y Y Y (p := 1) Y Y hc ho1 (((gl.mono Z).mono g0).mono g1) Y Y im ?_
 intro k1 xs2 hd io
 refine a0e (a0c (a0a (a0d Y Y Y (a0d Y Y Y (a0d Y Y Y (a1f (e := 3) (cs := [.int .i64 lo2]) (q := 1) Y Y hd Y (fun _ => by kernel_rfl) Y Y ?_))))))
 intro b6 iy he
 obtain ⟨k2, gg, go, hsx3⟩ := a1g he (i := 0) Y ((show RowN (Rp.int .i64) gf 1 [.int .i64 lo2] [lo2] from ⟨Y, ⟨_, _, Y, Y, (Y : RowR (Rp.int .i64) _ [] [])⟩⟩))
 obtain ⟨v3, ip, hm⟩ := Yb hm
 refine a0i ent101 Y Y Y Y go (a6q _ _ _ ip go.sat hsx3) ?_
 rintro _ iz _ j0 z hf ⟨j1, j2, j3, xss10, rfl, rfl, hg⟩
 obtain ⟨j4, G, gp, hsx4⟩ := a1g hf (i := 0) Y hg
 have iq := (((((V.trans Z).trans g0).trans g1).trans gg).trans z).trans G
 obtain ⟨v4, ir, hm⟩ := Yb hm
 refine a0i ent122 Y Y Y Y gp (b5j _ _ _ _ ir gp.sat (gx.mono iq) hsx4) ?_
 rintro _ j5 _ j6 g3 hh ⟨j7, j8, j9, xss11, rfl, rfl, hi⟩
 obtain ⟨ja, g4, hj, hsx5⟩ := a1g hh (i := 1) Y (((((h5.mono g1).mono gg).mono z).mono G).mono g3)
 obtain ⟨jb, g5, gq, hsx6⟩ := a1g hj (i := 0) Y (hi.mono g4)
 obtain ⟨v5, it, hm⟩ := Yb hm
 refine a0i ent100 Y Y Y Y gq (b5f _ _ _ _ it gq.sat (hsx5.mono g5) hsx6) ?_
 rintro _ jc _ jd gr hk ⟨hl, hn, ho, xss12, rfl, rfl, hp⟩
 refine a0b Y Y Y (a0e (a1o (a0c (a0a (a0d Y Y Y (a0u Y Y Y Y Y (a0b Y Y Y (a0e ?_))))))))
 obtain ⟨je, gs, hq, hsx7⟩ := a1g hk (i := 0) Y hp
 refine a0k (fun a ha => ihx1 (v5, (isub .i64 i1 1), l5) a _ hm ?_)
 exact ⟨_, hl, hn, ho, k, g, o, xs2, (((((((((((V.trans Z).trans g0).trans g1).trans gg).trans z).trans G).trans g3).trans g4).trans g5).trans gr).trans gs), hq.Yp [0] Y Y, hsx7, ((((((((io.mono gg).mono z).mono G).mono g3).mono g4).mono g5).mono gr).mono gs), ha.cut (l := [0, 1, 6, 7, 8]) Y⟩
 clear hm hkont2; intro hk2 mx2 K ihx2
 rintro ⟨lo1, hi1⟩ a jf hm ⟨ge, g2, gt, hr⟩
 simp only [c0n] at hm
 refine a1l hr (a0g (a0g (a0a (a0d Y Y Y (a0d Y Y Y (a0u Y Y Y Y Y (a0u Y Y Y Y Y (a0e (a0c ?_)))))))))
 rcases a0h hm with ⟨gu, hm⟩ | ⟨gu, hm⟩
 refine a0r 33 Y gu (a0x Y (a1b (a0c (a1j (a0g (a0a (a0d Y Y Y (a0d Y Y Y (a0u Y Y Y Y Y ?_)))))))))
 obtain ⟨q1, hq1, hm⟩ := Yb hm
 refine c7r Y Y Y Y hq1 (a0b Y Y Y (a0e (a0c (a0g (a0a (a0d Y Y Y (a0d Y Y Y (a0d Y Y Y (a1f (e := 3) (cs := [.int .i64 q1]) (q := 1) Y Y gt Y (fun _ => by kernel_rfl) Y Y ?_)))))))))
 intro b7 jg ht
 obtain ⟨jh, H, gv, hsx8⟩ := a1g ht (i := 0) Y ((show RowN (Rp.int .i64) ge 1 [.int .i64 q1] [q1] from ⟨Y, ⟨_, _, Y, Y, (Y : RowR (Rp.int .i64) _ [] [])⟩⟩))
 have iu := (((V.trans Z).trans g0).trans g2).trans H
 obtain ⟨v6, iv, hm⟩ := Yb hm
 refine a0i ent122 Y Y Y Y gv (b5j _ _ _ _ iv gv.sat (gx.mono iu) hsx8) ?_
 rintro _ ji _ jj g6 I ⟨jk, jl, jm, xss13, rfl, rfl, hu⟩
 obtain ⟨v7, iw, hm⟩ := Yb hm
 refine a2t ent121 Y Y Y Y (c2e _ _ _ _ iw (b1a _) (I.viewRow (p := 1) Y Y (((h5.mono g2).mono H).mono g6)) (I.viewRow (p := 0) Y Y hu)) (a0e (a0c ?_))
 rcases a0h hm with ⟨gw, hm⟩ | ⟨gw, hm⟩
 refine a0r 43 Y gw (a0x Y (a0a (a0d Y Y Y (a0b Y Y Y (a0e (a1o (a0k (fun a ha => ihx2 (lo1, q1) a _ hm ?_))))))))
 exact ⟨_, ((g2.trans H).trans g6), I.Yp [1, 2] Y Y, ha.cut (l := [0, 1, 6, 7, 8, 9, 10]) Y⟩
 refine a0r 43 Y gw (a0p Y (a0a (a0d Y Y Y (a0b Y Y Y (a0e (a1o (a0k (fun a ha => ihx2 (q1, hi1) a _ hm ?_))))))))
 exact ⟨_, ((g2.trans H).trans g6), I.Yp [1, 2] Y Y, ha.cut (l := [0, 1, 6, 7, 8, 9, 10]) Y⟩
 refine a0r 33 Y gu (a0p Y (a3p (a0w (a0w (fun a ha => hk2 lo1 a _ hm ?_)))))
 exact ⟨_, g2, gt.Yp [0, 1] Y Y, ha.cut (l := [0, 1, 6, 7, 8, 9]) Y⟩
 refine a0r 19 Y gm (a0p Y (a3p (a0w (a0w (fun a ha => hk1 (rx1, l2) a _ hm ?_)))))
 exact ⟨_, g7, g8, g9, k, g, o, xss4, V, gk.Yp [0] Y Y, h2, gl, ha.cut (l := [6, 7]) Y⟩
theorem ent66 : Ent Tryz.prog 66 := fun _ _ => by kernel_rfl
def b6b (n : Nat) (ax1 : Big) : Option Big :=
 (a6w n ax1).bind fun v1 =>
 bif !v1 then
  some (⟨0, []⟩ : Big)
 else
  (a6e n (IntKind.i64.wrap (0 - ax1.Sign)) ax1.Digits).bind fun v2 =>
  some v2
theorem b7i (n : Nat) (ax1 : Big) (r : Big) (hm : b6b n ax1 = some r) {w : World} {F : Frz} (hs : Sat F w) {l : Option Addr} {m : Nat} {o : Nat} (p : SlR (Rp.int .i64) F l m o ax1.Digits) :
  Calls Tryz.prog 67 #[.agg #[.int .i64 ax1.Sign, .slice l m o]] w fun e w' => ∃ v F' O', e = .returned v ∧ HS F w [] F' O' w' ∧ (∃ (a0_1 : Option Addr) (n0_1 : Nat) (c0_1 : Nat), v = .agg #[.int .i64 r.Sign, .slice a0_1 n0_1 c0_1] ∧ O' = [] ∧ SlR (Rp.int .i64) F' a0_1 n0_1 c0_1 r.Digits) := by
 unfold b6b at hm
 have h := HS.init hs
 refine a1a 13 Tryz.func67 Y Y Y (a0g (a0a (a2z Y Y Y Y h ?_)))
 intro b1 K t
 refine a1h ze35 Y Y Y t ?_
 intro b2 L j
 refine a0e (a0c (a0g (a0g (a0a (a0q ag35 sz35 Y Y j Y (i := 1) Y Y ?_)))))
 obtain ⟨v1, u, hm⟩ := Yb hm
 refine a0i ent66 Y Y Y Y j (a6a _ _ _ u j.sat p) ?_
 rintro _ M _ N x g ⟨rfl, rfl⟩
 refine a4c Y Y Y (a0e (a0c ?_))
 rcases a0h hm with ⟨k, hm⟩ | ⟨k, hm⟩
 refine a0r 5 Y k (a0x Y (a0g (a0a (a1r (v := .agg #[.int .i64 0, .slice none 0 0]) Y Y Y (fun _ => by kernel_rfl) (a0o sz35 Y g Y Y Y Y (i := 0) Y Y Y Y ?_)))))
 intro Q q
 refine a0e (a0c (a1c (a0j (a3h Y ag35 sz35 Y q Y (i := 0) Y ?_))))
 obtain rfl := Yo hm
 exact ⟨_, _, _, Y, q.Yp [] Y Y, none, 0, 0, Y, Y, SlR.nil _ _⟩
 refine a0r 5 Y k (a0p Y (a1b (a0c (a0g (a0a (a0f fa35_0 Y Y Y (a0n ag3 Y Y g Y (i := 1) Y Y (c7i Y Y Y (a0f fa35_1 Y Y Y (a0n ag28 Y Y g Y (i := 1) Y Y ?_))))))))))
 obtain ⟨v2, y, hm⟩ := Yb hm
 refine a0i ent70 Y Y Y Y g (a6o _ _ _ _ y g.sat (p.mono x)) ?_
 rintro _ R _ T U z ⟨G, H, I, rfl, rfl, J⟩
 refine a0o sz35 Y z Y Y Y Y (i := 0) Y Y Y Y ?_
 intro V s
 refine a0e (a0c (a1c (a3h Y ag35 sz35 Y s Y (i := 0) Y ?_)))
 obtain rfl := Yo hm
 exact ⟨_, _, _, Y, s.Yp [] Y Y, G, H, I, Y, Y, J⟩
theorem ent98 : Ent Tryz.prog 98 := fun _ _ => by kernel_rfl
theorem ent99 : Ent Tryz.prog 99 := fun _ _ => by kernel_rfl
def b6j (n : Nat) (ax1 : Big) (b1 : Big) : Option (Big × Big × Int) :=
 (a6w n ax1).bind fun v1 =>
 (bif !v1 then
  some true
 else
  (a6w n b1).bind fun v11 =>
  some (!v11)).bind fun v2 =>
 bif v2 then
  some ((⟨0, []⟩ : Big), (⟨0, []⟩ : Big), 1)
 else
  bif b1.Sign == 0 then
   some ((⟨0, []⟩ : Big), (⟨0, []⟩ : Big), 14)
  else
   (b2y n ax1.Digits b1.Digits).bind fun v3 =>
   (bif decide (0 ≤ (imul .i64 ax1.Sign b1.Sign)) then
    some true
   else
    some ((v3.2.length : Int) == 0)).bind fun v4 =>
   bif v4 then
    (a6e n (imul .i64 ax1.Sign b1.Sign) v3.1).bind fun v5 =>
    (a6e n ax1.Sign v3.2).bind fun v6 =>
    some (v5, v6, 0)
   else
    (b7b n v3.1 [1]).bind fun v7 =>
    (a6e n (-1) v7).bind fun v8 =>
    (b0c n b1.Digits v3.2).bind fun v9 =>
    (a6e n b1.Sign v9).bind fun v10 =>
    some (v8, v10, 0)
theorem b7t (n : Nat) (ax1 : Big) (b1 : Big) (r : (Big × Big × Int)) (hm : b6j n ax1 b1 = some r) {w : World} {F : Frz} (hs : Sat F w) {J K : Option Addr} {L M N Q : Nat} (gu : SlR (Rp.int .i64) F J L M ax1.Digits) (g2 : SlR (Rp.int .i64) F K N Q b1.Digits) :
  Calls Tryz.prog 69 #[.agg #[.int .i64 ax1.Sign, .slice J L M], .agg #[.int .i64 b1.Sign, .slice K N Q]] w fun e w' => ∃ v F' O', e = .returned v ∧ HS F w [] F' O' w' ∧ (∃ (a0_1 : Option Addr) (n0_1 : Nat) (c0_1 : Nat) (a1_1 : Option Addr) (n1_1 : Nat) (c1_1 : Nat), v = .tuple #[.agg #[.int .i64 r.1.Sign, .slice a0_1 n0_1 c0_1], .agg #[.int .i64 r.2.1.Sign, .slice a1_1 n1_1 c1_1], .int .i64 r.2.2] ∧ O' = [] ∧ SlR (Rp.int .i64) F' a0_1 n0_1 c0_1 r.1.Digits ∧ SlR (Rp.int .i64) F' a1_1 n1_1 c1_1 r.2.1.Digits) := by
 unfold b6j at hm
 have h := HS.init hs
 refine a1a 65 Tryz.func69 Y Y Y (a0g (a0a (a2z Y Y Y Y h ?_)))
 intro b2 iy hd
 refine a2z Y Y Y Y hd ?_
 intro b3 iz he
 refine a1h ze35 Y Y Y he ?_
 intro b4 j0 hf
 refine a1h ze35 Y Y Y hf ?_
 intro b5 j1 g3
 refine a0b Y Y Y (a0e (a0c (a0g (a0g (a0a (a0q ag35 sz35 Y Y g3 Y (i := 3) Y Y ?_))))))
 obtain ⟨v1, hg, hm⟩ := Yb hm
 refine a0i ent66 Y Y Y Y g3 (a6a _ _ _ hg g3.sat gu) ?_
 rintro _ hh _ j2 g0 g1 ⟨rfl, rfl⟩
 refine a4c Y Y Y (a0d Y Y Y ?_)
 obtain ⟨v2, s, hm⟩ := Yb hm
 refine a2g 4 (fun a w' => ∃ (g4 : Frz), Frz.le hh g4 ∧ HS F w [] g4 [.box b5 35 [.int .i64 0, .slice none 0 0], .box b4 35 [.int .i64 0, .slice none 0 0], .box b3 35 [.int .i64 b1.Sign, .slice K N Q], .box b2 35 [.int .i64 ax1.Sign, .slice J L M]] w' ∧ Has 65 a [(2, .pointer (some ⟨b2, 0, none⟩)), (3, .pointer (some ⟨b3, 0, none⟩)), (4, .pointer (some ⟨b4, 0, none⟩)), (5, .pointer (some ⟨b5, 0, none⟩)), (16, .bool v2)]) ?_ ?_
 rintro a j3 ⟨g4, g5, t, h5⟩
 refine a1d h5 (a0e (a0c ?_))
 rcases a0h hm with ⟨g6, hm⟩ | ⟨g6, hm⟩
 refine a0r 16 Y g6 (a0x Y (a0g (a0a (a1r (v := .agg #[.int .i64 0, .slice none 0 0]) Y Y Y (fun _ => by kernel_rfl) (a1r (v := .agg #[.int .i64 0, .slice none 0 0]) Y Y Y (fun _ => by kernel_rfl) (a0o sz35 Y t Y Y Y Y (i := 1) Y Y Y Y ?_))))))
 intro j4 hi
 refine a0o sz35 Y hi Y Y Y Y (i := 0) Y Y Y Y ?_
 intro j5 g7
 refine a0b Y Y Y (a0e (a0c (a1c (a0j (a1q (vl := [.agg #[.int .i64 0, .slice none 0 0], .agg #[.int .i64 0, .slice none 0 0], .int .i64 1]) Y ⟨a2h ag35 sz35 Y g7 Y (i := 1) Y, a2h ag35 sz35 Y g7 Y (i := 0) Y, a1p Y, trivial⟩ (by simp) ?_)))))
 obtain rfl := Yo hm
 exact ⟨_, _, _, Y, g7.Yp [] Y Y, none, 0, 0, none, 0, 0, Y, Y, SlR.nil _ _, SlR.nil _ _⟩
 refine a0r 16 Y g6 (a0p Y (a1b (a0c (a0g (a0g (a0a (a0f fa35_0 Y Y Y (a0n ag3 Y Y t Y (i := 2) Y Y (a0u Y Y Y Y Y (a0e (a0c ?_)))))))))))
 rcases a0h hm with ⟨g8, hm⟩ | ⟨g8, hm⟩
 refine a0r 21 Y g8 (a0x Y (a0g (a0a (a1r (v := .agg #[.int .i64 0, .slice none 0 0]) Y Y Y (fun _ => by kernel_rfl) (a1r (v := .agg #[.int .i64 0, .slice none 0 0]) Y Y Y (fun _ => by kernel_rfl) (a0o sz35 Y t Y Y Y Y (i := 1) Y Y Y Y ?_))))))
 intro j6 hj
 refine a0o sz35 Y hj Y Y Y Y (i := 0) Y Y Y Y ?_
 intro i9 U
 refine a0b Y Y Y (a0e (a0c (a1c (a0j (a1q (vl := [.agg #[.int .i64 0, .slice none 0 0], .agg #[.int .i64 0, .slice none 0 0], .int .i64 14]) Y ⟨a2h ag35 sz35 Y U Y (i := 1) Y, a2h ag35 sz35 Y U Y (i := 0) Y, a1p Y, trivial⟩ (by simp) ?_)))))
 obtain rfl := Yo hm
 exact ⟨_, _, _, Y, U.Yp [] Y Y, none, 0, 0, none, 0, 0, Y, Y, SlR.nil _ _, SlR.nil _ _⟩
 refine a0r 21 Y g8 (a0p Y (a1b (a0c (a0g (a0a (a0f fa35_1 Y Y Y (a0n ag28 Y Y t Y (i := 3) Y Y (a0f fa35_1 Y Y Y (a0n ag28 Y Y t Y (i := 2) Y Y ?_)))))))))
 obtain ⟨v3, hk, hm⟩ := Yb hm
 refine a0i ent98 Y Y Y Y t (b6m _ _ _ _ hk t.sat ((gu.mono g0).mono g5) ((g2.mono g0).mono g5)) ?_
 rintro _ g9 _ h6 hl I ⟨hn, ho, hp, xss3, hr, ht, hu, rfl, rfl, gv, ga⟩
 refine a0d Y Y Y (a0l Y Y Y Y (a0l Y Y Y Y (a0b Y Y Y (a0b Y Y Y (a0e (a0c (a0g (a0g (a0a (a0f fa35_0 Y Y Y (a0n ag3 Y Y I Y (i := 4) Y Y (a0f fa35_0 Y Y Y (a0n ag3 Y Y I Y (i := 3) Y Y (a0u Y Y Y Y Y (a0u Y Y Y Y Y ?_)))))))))))))))
 refine a0d Y Y Y ?_
 obtain ⟨v4, R, hm⟩ := Yb hm
 refine a2g 4 (fun a w' => h6 = w' ∧ Has 65 a [(2, .pointer (some ⟨b2, 0, none⟩)), (3, .pointer (some ⟨b3, 0, none⟩)), (4, .pointer (some ⟨b4, 0, none⟩)), (5, .pointer (some ⟨b5, 0, none⟩)), (7, .slice hn ho hp), (8, .slice hr ht hu), (42, .bool v4)]) ?_ ?_
 rintro a ia ⟨rfl, h7⟩
 refine a1d h7 (a0e (a0c ?_))
 rcases a0h hm with ⟨gb, hm⟩ | ⟨gb, hm⟩
 refine a0r 42 Y gb (a0x Y (a0g (a2f (SH g9 [.box b3 35 [.int .i64 b1.Sign, .slice K N Q], .box b2 35 [.int .i64 ax1.Sign, .slice J L M]]) 14 Y (by kernel_rfl) I ?_)))
 intro ib gc
 have S0 := gc.Ys Yf [3, 4] Y Y
 refine d_tk 0 Y (by kernel_rfl) Y Y Y Y S0 (fun _ _ _ _ _ => a0f fa35_0 Y Y Y Yn) (d_tk 1 Y (by kernel_rfl) Y Y Y Y S0 (fun _ _ _ _ hq => a0n ag3 Y Y hq Y (i := 1) Y Y Yn) (d_tk 2 Y (by kernel_rfl) Y Y Y Y S0 (fun _ _ _ _ _ => a0f fa35_0 Y Y Y Yn) (d_tk 3 Y (by kernel_rfl) Y Y Y Y S0 (fun _ _ _ _ hq => a0n ag3 Y Y hq Y (i := 0) Y Y Yn) (d_tk 4 Y (by kernel_rfl) Y Y Y Y S0 (fun _ _ _ _ _ => a0u Y Y Y Y Y Yn) (d_tk 5 Y (by kernel_rfl) Y Y Y Y S0 (fun _ _ _ _ _ => a0d Y Y Y Yn) (d_tk 7 Y (by kernel_rfl) Y Y Y Y S0 (fun _ _ _ _ _ => a0f fa35_0 Y Y Y Yn) ?_))))))
 refine d_tk 8 Y (by kernel_rfl) Y Y Y Y S0 (fun _ _ _ _ hq => a0n ag3 Y Y hq Y (i := 1) Y Y Yn) (d_tk 9 Y (by kernel_rfl) Y Y Y Y S0 (fun _ _ _ _ _ => a0d Y Y Y Yn) (a0z 6 Y (by kernel_rfl) ?_))
 obtain ⟨j7, G, gd, hsx1⟩ := a1g gc (i := 0) Y gv
 obtain ⟨v5, hv, hm⟩ := Yb hm
 refine a0i ent70 Y Y Y Y gd (a6o _ _ _ _ hv gd.sat hsx1) ?_
 rintro _ j8 _ ic H V ⟨gw, gx, gy, rfl, rfl, hw⟩
 refine a0v (V.Ys (G.trans H) [2, 3] Y Y) (a0z 10 Y (by kernel_rfl) ?_)
 obtain ⟨v6, hx, hm⟩ := Yb hm
 refine a0i ent70 Y Y Y Y V (a6o _ _ _ _ hx V.sat ((ga.mono G).mono H)) ?_
 rintro _ j9 _ id T ge ⟨gz, h0, h1, rfl, rfl, hy⟩
 refine a0v (ge.Ys ((G.trans H).trans T) [2, 3] Y Y) (a0z 11 Y (by kernel_rfl) (a0o sz35 Y ge Y Y Y Y (i := 1) Y Y Y Y ?_))
 intro ie gf
 refine a0v (gf.Ys ((G.trans H).trans T) [2, 3] Y Y) (a0z 12 Y (by kernel_rfl) (a0o sz35 Y gf Y Y Y Y (i := 0) Y Y Y Y ?_))
 intro ig u
 refine a0v (u.Ys ((G.trans H).trans T) [2, 3] Y Y) (d_tk 13 Y (by kernel_rfl) Y Y Y Y (u.Ys ((G.trans H).trans T) [2, 3] Y Y) (fun _ _ _ _ _ => a0b Y Y Y Yn) (a2u (by kernel_rfl) (a0c (a1c (a0j (a1q (vl := [.agg #[.int .i64 v5.Sign, .slice gw gx gy], .agg #[.int .i64 v6.Sign, .slice gz h0 h1], .int .i64 0]) Y ⟨a2h ag35 sz35 Y u Y (i := 1) Y, a2h ag35 sz35 Y u Y (i := 0) Y, a1p Y, trivial⟩ (by simp) ?_))))))
 obtain rfl := Yo hm
 exact ⟨_, _, _, Y, u.Yp [] Y Y, gw, gx, gy, gz, h0, h1, Y, Y, (hw.mono T), hy⟩
 refine a0r 42 Y gb (a0p Y (a1b (a0c (a0g (a2f (SH g9 [.box b3 35 [.int .i64 b1.Sign, .slice K N Q], .box b2 35 [.int .i64 ax1.Sign, .slice J L M]]) 14 Y (by kernel_rfl) I ?_)))))
 intro ih gg
 have S1 := gg.Ys Yf [3, 4] Y Y
 refine d_tk 0 Y (by kernel_rfl) Y Y Y Y S1 (fun _ _ _ _ _ => a0d Y Y Y Yn) (d_tk 4 Y (by kernel_rfl) Y Y Y Y S1 (fun _ _ _ _ _ => a0f fa35_0 Y Y Y Yn) (d_tk 5 Y (by kernel_rfl) Y Y Y Y S1 (fun _ _ _ _ hq => a0n ag3 Y Y hq Y (i := 0) Y Y Yn) (d_tk 6 Y (by kernel_rfl) Y Y Y Y S1 (fun _ _ _ _ _ => a0f fa35_1 Y Y Y Yn) (d_tk 7 Y (by kernel_rfl) Y Y Y Y S1 (fun _ _ _ _ hq => a0n ag28 Y Y hq Y (i := 0) Y Y Yn) (d_tk 8 Y (by kernel_rfl) Y Y Y Y S1 (fun _ _ _ _ _ => a0d Y Y Y Yn) (a0z 1 Y (by kernel_rfl) ?_))))))
 refine a1f (e := 3) (cs := [.int .i64 1]) (q := 1) Y Y gg Y (fun _ => by kernel_rfl) Y Y ?_
 intro b6 ii gh
 refine a0v (gh.Ys Yf [4, 5] Y Y) (a0z 2 Y (by kernel_rfl) ?_)
 obtain ⟨ja, k, h8, hsx2⟩ := a1g gh (i := 1) Y gv
 obtain ⟨jb, m, gi, hsx3⟩ := a1g h8 (i := 0) Y ((show RowN (Rp.int .i64) g9 1 [.int .i64 1] [1] from ⟨Y, ⟨_, _, Y, Y, (Y : RowR (Rp.int .i64) _ [] [])⟩⟩).mono k)
 obtain ⟨v7, hz, hm⟩ := Yb hm
 refine a0i ent99 Y Y Y Y gi (c2v _ _ _ _ hz gi.sat (hsx2.mono m) hsx3) ?_
 rintro _ jc _ ij o gj ⟨jd, je, jf, xss7, rfl, rfl, i0⟩
 refine a0v (gj.Ys ((k.trans m).trans o) [3, 4] Y Y) (a0z 3 Y (by kernel_rfl) ?_)
 obtain ⟨ik, g, gk, hsx4⟩ := a1g gj (i := 0) Y i0
 obtain ⟨v8, i1, hm⟩ := Yb hm
 refine a0i ent70 Y Y Y Y gk (a6o _ _ _ _ i1 gk.sat hsx4) ?_
 rintro _ il _ im j Z ⟨h2, h3, h4, rfl, rfl, i2⟩
 refine a0v (Z.sh ((((k.trans m).trans o).trans g).trans j) [2, 3] (by decide) Y) (a0z 9 Y (by kernel_rfl) ?_)
 have i3 := ((((((g0.trans g5).trans hl).trans k).trans m).trans o).trans g).trans j
 have i4 := (((k.trans m).trans o).trans g).trans j
 obtain ⟨v9, i5, hm⟩ := Yb hm
 refine a0i ent100 Y Y Y Y Z (b5f _ _ _ _ i5 Z.sat (g2.mono i3) (ga.mono i4)) ?_
 rintro _ io _ ip p gl ⟨jg, jh, ji, xss9, rfl, rfl, i6⟩
 refine a0v (gl.sh (((((k.trans m).trans o).trans g).trans j).trans p) [3, 4] (by decide) Y) (a0z 10 Y (by kernel_rfl) ?_)
 obtain ⟨iq, x, gm, hsx5⟩ := a1g gl (i := 0) Y i6
 obtain ⟨v10, i7, hm⟩ := Yb hm
 refine a0i ent70 Y Y Y Y gm (a6o _ _ _ _ i7 gm.sat hsx5) ?_
 rintro _ ir _ it y gn ⟨go, gp, gq, rfl, rfl, h9⟩
 refine a0v (gn.sh (((((((k.trans m).trans o).trans g).trans j).trans p).trans x).trans y) [2, 3] (by decide) Y) (a0z 11 Y (by kernel_rfl) (a0o sz35 Y gn Y Y Y Y (i := 1) Y Y Y Y ?_))
 intro iu gr
 refine a0v (gr.sh (((((((k.trans m).trans o).trans g).trans j).trans p).trans x).trans y) [2, 3] (by decide) Y) (a0z 12 Y (by kernel_rfl) (a0o sz35 Y gr Y Y Y Y (i := 0) Y Y Y Y ?_))
 intro iv z
 refine a0v (z.sh (((((((k.trans m).trans o).trans g).trans j).trans p).trans x).trans y) [2, 3] (by decide) Y) (d_tk 13 Y (by kernel_rfl) Y Y Y Y (z.sh (((((((k.trans m).trans o).trans g).trans j).trans p).trans x).trans y) [2, 3] (by decide) Y) (fun _ _ _ _ _ => a0b Y Y Y Yn) (a2u (by kernel_rfl) (a0c (a1c (a1q (vl := [.agg #[.int .i64 v8.Sign, .slice h2 h3 h4], .agg #[.int .i64 v10.Sign, .slice go gp gq], .int .i64 0]) Y ⟨a2h ag35 sz35 Y z Y (i := 1) Y, a2h ag35 sz35 Y z Y (i := 0) Y, a1p Y, trivial⟩ (by simp) ?_)))))
 obtain rfl := Yo hm
 exact ⟨_, _, _, Y, z.Yp [] Y Y, h2, h3, h4, go, gp, gq, Y, Y, (((i2.mono p).mono x).mono y), h9⟩
 clear hm
 rcases a0h R with ⟨gs, R⟩ | ⟨gs, R⟩
 refine a1k 38 Y gs (a0y Y (by decide) Y (a0y Y (by decide) Y (a0y Y (by decide) Y (a0s Y Y Y Y (a0e (a0k (fun a ha => ?_)))))))
 cases R
 exact ⟨Y, ha.cut (l := [2, 3, 4, 5, 7, 8, 42]) Y⟩
 refine a1k 38 Y gs (a0d Y Y Y (a1y ga.len u28 Y Y Y (a0u Y Y Y Y Y (a0m Y Y Y Y (a0e (a0k (fun a ha => ?_)))))))
 cases R
 exact ⟨Y, ha.cut (l := [2, 3, 4, 5, 7, 8, 42]) Y⟩
 clear hm
 rcases a0h s with ⟨gt, s⟩ | ⟨gt, s⟩
 refine a1k 12 Y gt (a0y Y (by decide) Y (a0y Y (by decide) Y (a0y Y (by decide) Y (a0s Y Y Y Y (a0e (a0k (fun a ha => ?_)))))))
 cases s
 exact ⟨_, Yf, g1.Yp [0, 1, 2, 3] Y Y, ha.cut (l := [2, 3, 4, 5, 16]) Y⟩
 refine a1k 12 Y gt (a0q ag35 sz35 Y Y g1 Y (i := 2) Y Y ?_)
 obtain ⟨v11, i8, s⟩ := Yb s
 refine a0i ent66 Y Y Y Y g1 (a6a _ _ _ i8 g1.sat (g2.mono g0)) ?_
 rintro _ iw _ ix hb hc ⟨rfl, rfl⟩
 refine a4c Y Y Y (a0m Y Y Y Y (a0e (a0k (fun a ha => ?_))))
 cases s
 exact ⟨_, hb, hc.Yp [0, 1, 2, 3] Y Y, ha.cut (l := [2, 3, 4, 5, 16]) Y⟩
def a9d (n : Nat) (kont1 : (List Int) → Option (Big × Int)) : Nat → (List Int) → (List Int) → Option (Big × Int)
 | 0, _, _ => none
 | mx1 + 1, x1, y1 =>
  bif decide (0 < (y1.length : Int)) then
   (b2y n x1 y1).bind fun v4 =>
   a9d n kont1 mx1 y1 v4.2
  else
   kont1 x1
theorem c1d (n : Nat) (kont1 : (List Int) → Option (Big × Int)) (mx1 : Nat) (x1 : (List Int)) (y1 : (List Int)) : a9d n kont1 (mx1 + 1) x1 y1 =
  bif decide (0 < (y1.length : Int)) then
   (b2y n x1 y1).bind fun v4 =>
   a9d n kont1 mx1 y1 v4.2
  else
   kont1 x1 := rfl
def c0d (n : Nat) (ax1 : Big) (b1 : Big) : Option (Big × Int) :=
 (a6w n ax1).bind fun v1 =>
 (bif !v1 then
  some true
 else
  (a6w n b1).bind fun v5 =>
  some (!v5)).bind fun v2 =>
 bif v2 then
  some ((⟨0, []⟩ : Big), 1)
 else
  a9d n (fun (x2 : (List Int)) =>
   (a6e n 1 x2).bind fun v3 =>
   some (v3, 0)) n ax1.Digits b1.Digits
theorem c4n (n : Nat) (ax1 : Big) (b1 : Big) (r : (Big × Int)) (hm : c0d n ax1 b1 = some r) {w : World} {F : Frz} (hs : Sat F w) {o p : Option Addr} {q t u x : Nat} (g6 : SlR (Rp.int .i64) F o q t ax1.Digits) (g7 : SlR (Rp.int .i64) F p u x b1.Digits) :
  Calls Tryz.prog 68 #[.agg #[.int .i64 ax1.Sign, .slice o q t], .agg #[.int .i64 b1.Sign, .slice p u x]] w fun e w' => ∃ v F' O', e = .returned v ∧ HS F w [] F' O' w' ∧ (∃ (a0_1 : Option Addr) (n0_1 : Nat) (c0_1 : Nat), v = .tuple #[.agg #[.int .i64 r.1.Sign, .slice a0_1 n0_1 c0_1], .int .i64 r.2] ∧ O' = [] ∧ SlR (Rp.int .i64) F' a0_1 n0_1 c0_1 r.1.Digits) := by
 unfold c0d at hm
 have h := HS.init hs
 refine a1a 36 Tryz.func68 Y Y Y (a0g (a0a (a2z Y Y Y Y h ?_)))
 intro b2 h5 gn
 refine a2z Y Y Y Y gn ?_
 intro b3 h6 go
 refine a1h ze35 Y Y Y go ?_
 intro b4 h7 R
 refine a0b Y Y Y (a0e (a0c (a0g (a0g (a0a (a0q ag35 sz35 Y Y R Y (i := 2) Y Y ?_))))))
 obtain ⟨v1, gp, hm⟩ := Yb hm
 refine a0i ent66 Y Y Y Y R (a6a _ _ _ gp R.sat g6) ?_
 rintro _ gq _ h8 T z ⟨rfl, rfl⟩
 refine a4c Y Y Y (a0d Y Y Y ?_)
 obtain ⟨v2, g, hm⟩ := Yb hm
 refine a2g 4 (fun a w' => ∃ (j : Frz), Frz.le gq j ∧ HS F w [] j [.box b4 35 [.int .i64 0, .slice none 0 0], .box b3 35 [.int .i64 b1.Sign, .slice p u x], .box b2 35 [.int .i64 ax1.Sign, .slice o q t]] w' ∧ Has 36 a [(2, .pointer (some ⟨b2, 0, none⟩)), (3, .pointer (some ⟨b3, 0, none⟩)), (4, .pointer (some ⟨b4, 0, none⟩)), (17, .bool v2)]) ?_ ?_
 rintro a h9 ⟨j, g8, G, gh⟩
 refine a1d gh (a0e (a0c ?_))
 rcases a0h hm with ⟨U, hm⟩ | ⟨U, hm⟩
 refine a0r 17 Y U (a0x Y (a0g (a0a (a1r (v := .agg #[.int .i64 0, .slice none 0 0]) Y Y Y (fun _ => by kernel_rfl) (a0o sz35 Y G Y Y Y Y (i := 0) Y Y Y Y ?_)))))
 intro hb g9
 refine a0b Y Y Y (a0e (a0c (a1c (a0j (a1q (vl := [.agg #[.int .i64 0, .slice none 0 0], .int .i64 1]) Y ⟨a2h ag35 sz35 Y g9 Y (i := 0) Y, a1p Y, trivial⟩ (by simp) ?_)))))
 obtain rfl := Yo hm
 exact ⟨_, _, _, Y, g9.Yp [] Y Y, none, 0, 0, Y, Y, SlR.nil _ _⟩
 refine a0r 17 Y U (a0p Y (a1b (a0c (a0g (a0a (a0f fa35_1 Y Y Y (a0n ag28 Y Y G Y (i := 2) Y Y (a0b Y Y Y (a0e (a0c (a0g (a0a (a0f fa35_1 Y Y Y (a0n ag28 Y Y G Y (i := 1) Y Y ?_))))))))))))))
 refine a0b Y Y Y (a0e (a0c (a0g (a1j ?_))))
 intro a gi
 obtain ⟨kont1, hkont1⟩ : ∃ kont1 : (List Int) → Option (Big × Int), kont1 = (fun (x2 : (List Int)) => (a6e n 1 x2).bind fun v3 => some (v3, 0)) := ⟨_, Y⟩
 replace hm : (fun m (s : (List Int) × (List Int)) => a9d n kont1 m s.1 s.2) n (ax1.Digits, b1.Digits) = some r := by rw [hkont1]; exact hm
 refine a5j (id := 0) (fun m (s : (List Int) × (List Int)) => a9d n kont1 m s.1 s.2) (fun (y : (List Int)) => kont1 y) r (fun (s : (List Int) × (List Int)) a w' => ∃ (k : Frz) (H : Option Addr) (I : Nat) (J : Nat) (L : Option Addr) (M : Nat) (N : Nat), Frz.le j k ∧ HS F w [] k [.box b4 35 [.int .i64 0, .slice none 0 0]] w' ∧ (SlR (Rp.int .i64) k H I J s.1) ∧ (SlR (Rp.int .i64) k L M N s.2) ∧ Has 36 a [(4, .pointer (some ⟨b4, 0, none⟩)), (6, .slice H I J), (7, .slice L M N)]) (fun (y : (List Int)) a w' => ∃ (Q : Frz) (V : Option Addr) (Z : Nat) (g0 : Nat), Frz.le j Q ∧ HS F w [] Q [.box b4 35 [.int .i64 0, .slice none 0 0]] w' ∧ (SlR (Rp.int .i64) Q V Z g0 y) ∧ Has 36 a [(4, .pointer (some ⟨b4, 0, none⟩)), (6, .slice V Z g0)]) (fun _ => Y) ?_ ?_ hm ⟨_, o, q, t, p, u, x, Yf, G.Yp [0] Y Y, ((g6.mono T).mono g8), ((g7.mono T).mono g8), gi.cut (l := [4, 6, 7]) Y⟩
 clear hm; rintro x2 a hc hm ⟨Q, V, Z, g0, hd, ga, gr, gj⟩
 rw [hkont1] at hm
 replace hm := hm
 refine a2c (e := .exit 0) gj (a1m (a0c (a0g (a0a (a0d Y Y Y ?_)))))
 obtain ⟨v3, gs, hm⟩ := Yb hm
 refine a0i ent70 Y Y Y Y ga (a6o _ _ _ _ gs ga.sat gr) ?_
 rintro _ he _ hf hg gt ⟨gb, gc, gd, rfl, rfl, gu⟩
 refine a0o sz35 Y gt Y Y Y Y (i := 0) Y Y Y Y ?_
 intro hh g1
 refine a0b Y Y Y (a0e (a0c (a1c (a1q (vl := [.agg #[.int .i64 v3.Sign, .slice gb gc gd], .int .i64 0]) Y ⟨a2h ag35 sz35 Y g1 Y (i := 0) Y, a1p Y, trivial⟩ (by simp) ?_))))
 obtain rfl := Yo hm
 exact ⟨_, _, _, Y, g1.Yp [] Y Y, gb, gc, gd, Y, Y, gu⟩
 clear hm hkont1; intro hk1 mx1 K ihx1
 rintro ⟨x1, y1⟩ a h2 hm ⟨k, H, I, J, L, M, N, ge, g2, gf, g3, gk⟩
 simp only [c1d] at hm
 refine a1l gk (a0g (a0g (a0a (a0d Y Y Y (a1y g3.len u28 Y Y Y (a0u Y Y Y Y Y (a0e (a0c ?_))))))))
 rcases a0h hm with ⟨g4, hm⟩ | ⟨g4, hm⟩
 refine a0r 25 Y g4 (a0x Y (a1b (a0c (a1j (a0g (a0a (a0d Y Y Y (a0d Y Y Y ?_))))))))
 obtain ⟨v4, gv, hm⟩ := Yb hm
 refine a0i ent98 Y Y Y Y g2 (b6m _ _ _ _ gv g2.sat gf g3) ?_
 rintro _ hi _ h3 gg gl ⟨hj, hk, hl, xss7, gw, gx, gy, rfl, rfl, hn, gz⟩
 refine a0d Y Y Y (a0l Y Y Y Y (a0l Y Y Y Y (a0b Y Y Y (a0b Y Y Y (a0e (a0c (a0g (a0a (a0d Y Y Y (a0b Y Y Y (a0e (a0c (a0a (a0d Y Y Y (a0b Y Y Y (a0e (a1o (a0k (fun a ha => ihx1 (y1, v4.2) a _ hm ?_)))))))))))))))))))
 exact ⟨_, L, M, N, gw, gx, gy, (ge.trans gg), gl.Yp [1] Y Y, (g3.mono gg), gz, ha.cut (l := [4, 6, 7]) Y⟩
 refine a0r 25 Y g4 (a0p Y (a3p (a0w (a0w (fun a ha => hk1 x1 a _ hm ?_)))))
 exact ⟨_, H, I, J, ge, g2.Yp [0] Y Y, gf, ha.cut (l := [4, 6]) Y⟩
 clear hm
 rcases a0h g with ⟨g5, g⟩ | ⟨g5, g⟩
 refine a1k 13 Y g5 (a0y Y (by decide) Y (a0y Y (by decide) Y (a0y Y (by decide) Y (a0s Y Y Y Y (a0e (a0k (fun a ha => ?_)))))))
 cases g
 exact ⟨_, Yf, z.Yp [0, 1, 2] Y Y, ha.cut (l := [2, 3, 4, 17]) Y⟩
 refine a1k 13 Y g5 (a0q ag35 sz35 Y Y z Y (i := 1) Y Y ?_)
 obtain ⟨v5, h0, g⟩ := Yb g
 refine a0i ent66 Y Y Y Y z (a6a _ _ _ h0 z.sat (g7.mono T)) ?_
 rintro _ ho _ h4 h1 gm ⟨rfl, rfl⟩
 refine a4c Y Y Y (a0m Y Y Y Y (a0e (a0k (fun a ha => ?_))))
 cases g
 exact ⟨_, h1, gm.Yp [0, 1, 2] Y Y, ha.cut (l := [2, 3, 4, 17]) Y⟩
end Go.Proofs.YtknpjecpcmajiaaGreatDoor.M

namespace Go.Proofs.YtknpjecpcmajiaaGreatDoor.M
open Go Go.RowKit Rt
theorem ent68 : Ent Tryz.prog 68 := fun _ _ => by kernel_rfl
theorem ent69 : Ent Tryz.prog 69 := fun _ _ => by kernel_rfl
theorem ent67 : Ent Tryz.prog 67 := fun _ _ => by kernel_rfl
def c0h (n : Nat) (p1 : Big) (q1 : Big) : Option (Frac × Int) :=
 (a6w n p1).bind fun v1 =>
 (bif !v1 then
  some true
 else
  (a6w n q1).bind fun v8 =>
  some (!v8)).bind fun v2 =>
 bif v2 then
  some ((⟨(⟨0, []⟩ : Big), (⟨0, []⟩ : Big)⟩ : Frac), 1)
 else
  bif q1.Sign == 0 then
   some ((⟨(⟨0, []⟩ : Big), (⟨0, []⟩ : Big)⟩ : Frac), 14)
  else
   (bif decide (q1.Sign < 0) then
    (b6b n p1).bind fun v6 =>
    (b6b n q1).bind fun v7 =>
    some (v7.Sign, v7.Digits, v6.Sign, v6.Digits)
   else
    some (q1.Sign, q1.Digits, p1.Sign, p1.Digits)).bind fun (f1, f2, f3, f4) =>
   (c0d n (⟨f3, f4⟩ : Big) (⟨f1, f2⟩ : Big)).bind fun v3 =>
   (b6j n (⟨f3, f4⟩ : Big) v3.1).bind fun v4 =>
   (b6j n (⟨f1, f2⟩ : Big) v3.1).bind fun v5 =>
   some ((⟨v4.1, v5.1⟩ : Frac), 0)
theorem c3p (n : Nat) (p1 : Big) (q1 : Big) (r : (Frac × Int)) (hm : c0h n p1 q1 = some r) {w : World} {F : Frz} (hs : Sat F w) {u x : Option Addr} {y z G H : Nat} (M : SlR (Rp.int .i64) F u y z p1.Digits) (N : SlR (Rp.int .i64) F x G H q1.Digits) :
  Calls Tryz.prog 39 #[.agg #[.int .i64 p1.Sign, .slice u y z], .agg #[.int .i64 q1.Sign, .slice x G H]] w fun e w' => ∃ v F' O', e = .returned v ∧ HS F w [] F' O' w' ∧ (∃ (a0_1 : Option Addr) (n0_1 : Nat) (c0_1 : Nat) (a0_3 : Option Addr) (n0_3 : Nat) (c0_3 : Nat), v = .tuple #[.agg #[.int .i64 r.1.P.Sign, .slice a0_1 n0_1 c0_1, .int .i64 r.1.Q.Sign, .slice a0_3 n0_3 c0_3], .int .i64 r.2] ∧ O' = [] ∧ SlR (Rp.int .i64) F' a0_1 n0_1 c0_1 r.1.P.Digits ∧ SlR (Rp.int .i64) F' a0_3 n0_3 c0_3 r.1.Q.Digits) := by
 unfold c0h at hm
 have h := HS.init hs
 refine a1a 57 Tryz.func39 Y Y Y (a0g (a0a (a2z Y Y Y Y h ?_)))
 intro b1 i9 h9
 refine a2z Y Y Y Y h9 ?_
 intro b2 ia hb
 refine a1h ze37 Y Y Y hb ?_
 intro b3 ib R
 refine a0b Y Y Y (a0e (a0c (a0g (a0g (a0a (a0q ag35 sz35 Y Y R Y (i := 2) Y Y ?_))))))
 obtain ⟨v1, hc, hm⟩ := Yb hm
 refine a0i ent66 Y Y Y Y R (a6a _ _ _ hc R.sat M) ?_
 rintro _ hd _ ic p I ⟨rfl, rfl⟩
 refine a4c Y Y Y (a0d Y Y Y ?_)
 obtain ⟨v2, k, hm⟩ := Yb hm
 refine a2g 4 (fun a w' => ∃ (J : Frz), Frz.le hd J ∧ HS F w [] J [.box b3 37 [.int .i64 0, .slice none 0 0, .int .i64 0, .slice none 0 0], .box b2 35 [.int .i64 q1.Sign, .slice x G H], .box b1 35 [.int .i64 p1.Sign, .slice u y z]] w' ∧ Has 57 a [(2, .pointer (some ⟨b1, 0, none⟩)), (3, .pointer (some ⟨b2, 0, none⟩)), (4, .pointer (some ⟨b3, 0, none⟩)), (21, .bool v2)]) ?_ ?_
 rintro a id ⟨J, K, j, gm⟩
 refine a1d gm (a0e (a0c ?_))
 rcases a0h hm with ⟨T, hm⟩ | ⟨T, hm⟩
 refine a0r 21 Y T (a0x Y (a0g (a0a (a1r (v := .agg #[.int .i64 0, .slice none 0 0, .int .i64 0, .slice none 0 0]) Y Y Y (fun _ => by kernel_rfl) (a0o sz37 Y j Y Y Y Y (i := 0) Y Y Y Y ?_)))))
 intro ie gd
 refine a0b Y Y Y (a0e (a0c (a1c (a0j (a1q (vl := [.agg #[.int .i64 0, .slice none 0 0, .int .i64 0, .slice none 0 0], .int .i64 1]) Y ⟨a2h ag37 sz37 Y gd Y (i := 0) Y, a1p Y, trivial⟩ (by simp) ?_)))))
 obtain rfl := Yo hm
 exact ⟨_, _, _, Y, gd.Yp [] Y Y, none, 0, 0, none, 0, 0, Y, Y, SlR.nil _ _, SlR.nil _ _⟩
 refine a0r 21 Y T (a0p Y (a1b (a0c (a0g (a0g (a0a (a0f fa35_0 Y Y Y (a0n ag3 Y Y j Y (i := 1) Y Y (a0u Y Y Y Y Y (a0e (a0c ?_)))))))))))
 rcases a0h hm with ⟨U, hm⟩ | ⟨U, hm⟩
 refine a0r 25 Y U (a0x Y (a0g (a0a (a1r (v := .agg #[.int .i64 0, .slice none 0 0, .int .i64 0, .slice none 0 0]) Y Y Y (fun _ => by kernel_rfl) (a0o sz37 Y j Y Y Y Y (i := 0) Y Y Y Y ?_)))))
 intro ig ge
 refine a0b Y Y Y (a0e (a0c (a1c (a0j (a1q (vl := [.agg #[.int .i64 0, .slice none 0 0, .int .i64 0, .slice none 0 0], .int .i64 14]) Y ⟨a2h ag37 sz37 Y ge Y (i := 0) Y, a1p Y, trivial⟩ (by simp) ?_)))))
 obtain rfl := Yo hm
 exact ⟨_, _, _, Y, ge.Yp [] Y Y, none, 0, 0, none, 0, 0, Y, Y, SlR.nil _ _, SlR.nil _ _⟩
 refine a0r 25 Y U (a0p Y (a1b (a0c (a0g (a0g (a0a (a0f fa35_0 Y Y Y (a0n ag3 Y Y j Y (i := 1) Y Y (a0u Y Y Y Y Y (a0e (a0c ?_)))))))))))
 obtain ⟨⟨f1, f2, f3, f4⟩, g, hm⟩ := Yb hm
 refine a6f (fun a w' => ∃ (q : Frz) (V : Option Addr) (Z : Nat) (g0 : Nat) (g1 : Option Addr) (g2 : Nat) (g3 : Nat), Frz.le J q ∧ HS F w [] q [.box b3 37 [.int .i64 0, .slice none 0 0, .int .i64 0, .slice none 0 0], .box b2 35 [.int .i64 f1, .slice V Z g0], .box b1 35 [.int .i64 f3, .slice g1 g2 g3]] w' ∧ (SlR (Rp.int .i64) q V Z g0 f2) ∧ (SlR (Rp.int .i64) q g1 g2 g3 f4) ∧ Has 57 a [(2, .pointer (some ⟨b1, 0, none⟩)), (3, .pointer (some ⟨b2, 0, none⟩)), (4, .pointer (some ⟨b3, 0, none⟩))]) ?_ ?_
 rintro a ih ⟨q, V, Z, g0, g1, g2, g3, ii, L, gf, gg, gn⟩
 refine a1l gn (a0g (a0a (a0q ag35 sz35 Y Y L Y (i := 2) Y Y (a0q ag35 sz35 Y Y L Y (i := 1) Y Y ?_))))
 obtain ⟨v3, he, hm⟩ := Yb hm
 refine a0i ent68 Y Y Y Y L (c4n _ _ _ _ he L.sat gg gf) ?_
 rintro _ ij _ ik gh hf ⟨il, im, io, rfl, rfl, gi⟩
 refine a0d Y Y Y (a0l Y Y Y Y (a0l Y Y Y Y (a1h ze35 Y Y Y hf ?_)))
 intro b4 hq go
 refine a0o sz35 Y go Y Y Y Y (i := 0) Y Y Y Y ?_
 intro hr m
 refine a0b Y Y Y (a0e (a0c (a0g (a0a (a0q ag35 sz35 Y Y m Y (i := 3) Y Y (a0q ag35 sz35 Y Y m Y (i := 0) Y Y ?_))))))
 obtain ⟨v4, hg, hm⟩ := Yb hm
 refine a0i ent69 Y Y Y Y m (b7t _ _ _ _ hg m.sat (gg.mono gh) gi) ?_
 rintro _ ip _ ht gj gp ⟨g4, g5, g6, iq, ir, it, rfl, rfl, hh, iu⟩
 refine a0d Y Y Y (a0l Y Y Y Y (a0l Y Y Y Y (a0l Y Y Y Y (a1h ze35 Y Y Y gp ?_))))
 intro b5 hu gq
 refine a1h ze35 Y Y Y gq ?_
 intro b6 hv gr
 refine a0o sz35 Y gr Y Y Y Y (i := 1) Y Y Y Y ?_
 intro hw gs
 refine a0o sz35 Y gs Y Y Y Y (i := 0) Y Y Y Y ?_
 intro hx o
 refine a0b Y Y Y (a0e (a0c (a0g (a0a (a0q ag35 sz35 Y Y o Y (i := 4) Y Y (a0q ag35 sz35 Y Y o Y (i := 2) Y Y ?_))))))
 obtain ⟨v5, hi, hm⟩ := Yb hm
 refine a0i ent69 Y Y Y Y o (b7t _ _ _ _ hi o.sat ((gf.mono gh).mono gj) (gi.mono gj)) ?_
 rintro _ iv _ hy hj gt ⟨g7, g8, g9, iw, ix, iy, rfl, rfl, hk, iz⟩
 refine a0d Y Y Y (a0l Y Y Y Y (a0l Y Y Y Y (a0l Y Y Y Y (a1h ze35 Y Y Y gt ?_))))
 intro b7 hz gu
 refine a1h ze35 Y Y Y gu ?_
 intro b8 i0 gv
 refine a0o sz35 Y gv Y Y Y Y (i := 1) Y Y Y Y ?_
 intro i1 gw
 refine a0o sz35 Y gw Y Y Y Y (i := 0) Y Y Y Y ?_
 intro i2 s
 refine a0b Y Y Y (a0e (a0c (a0g (a0a (a0q ag35 sz35 Y Y s Y (i := 3) Y Y (a0q ag35 sz35 Y Y s Y (i := 1) Y Y (a1r (v := .agg #[.int .i64 v4.1.Sign, .slice g4 g5 g6, .int .i64 v5.1.Sign, .slice g7 g8 g9]) Y Y Y (fun _ => by kernel_rfl) (a0o sz37 Y s Y Y Y Y (i := 5) Y Y Y Y ?_))))))))
 intro i3 ga
 refine a0b Y Y Y (a0e (a0c (a1c (a1q (vl := [.agg #[.int .i64 v4.1.Sign, .slice g4 g5 g6, .int .i64 v5.1.Sign, .slice g7 g8 g9], .int .i64 0]) Y ⟨a2h ag37 sz37 Y ga Y (i := 5) Y, a1p Y, trivial⟩ (by simp) ?_))))
 obtain rfl := Yo hm
 exact ⟨_, _, _, Y, ga.Yp [] Y Y, g4, g5, g6, g7, g8, g9, Y, Y, (hh.mono hj), hk⟩
 clear hm
 rcases a0h g with ⟨gb, g⟩ | ⟨gb, g⟩
 refine a0r 29 Y gb (a0x Y (a0g (a0a (a0q ag35 sz35 Y Y j Y (i := 2) Y Y ?_))))
 obtain ⟨v6, hl, g⟩ := Yb g
 refine a0i ent67 Y Y Y Y j (b7i _ _ _ hl j.sat ((M.mono p).mono K)) ?_
 rintro _ j0 _ i4 gk gx ⟨gy, gz, h0, rfl, rfl, h1⟩
 refine a0o sz35 Y gx Y Y Y Y (i := 2) Y Y Y Y ?_
 intro i5 t
 refine a0e (a0c (a0a (a0q ag35 sz35 Y Y t Y (i := 1) Y Y ?_)))
 obtain ⟨v7, hn, g⟩ := Yb g
 refine a0i ent67 Y Y Y Y t (b7i _ _ _ hn t.sat (((N.mono p).mono K).mono gk)) ?_
 rintro _ j1 _ i6 gl h2 ⟨h3, h4, h5, rfl, rfl, h6⟩
 refine a0o sz35 Y h2 Y Y Y Y (i := 1) Y Y Y Y ?_
 intro i7 h7
 refine a0e (a0k (fun a ha => ?_))
 cases g
 exact ⟨_, h3, h4, h5, gy, gz, h0, (gk.trans gl), h7.Yp [0, 1, 2] Y Y, h6, (h1.mono gl), ha.cut (l := [2, 3, 4]) Y⟩
 refine a0r 29 Y gb (a0p Y (a1b (a0k (fun a ha => ?_))))
 cases g
 exact ⟨_, x, G, H, u, y, z, Yf, j.Yp [0, 1, 2] Y Y, ((N.mono p).mono K), ((M.mono p).mono K), ha.cut (l := [2, 3, 4]) Y⟩
 clear hm
 rcases a0h k with ⟨gc, k⟩ | ⟨gc, k⟩
 refine a1k 17 Y gc (a0y Y (by decide) Y (a0y Y (by decide) Y (a0y Y (by decide) Y (a0s Y Y Y Y (a0e (a0k (fun a ha => ?_)))))))
 cases k
 exact ⟨_, Yf, I.Yp [0, 1, 2] Y Y, ha.cut (l := [2, 3, 4, 21]) Y⟩
 refine a1k 17 Y gc (a0q ag35 sz35 Y Y I Y (i := 1) Y Y ?_)
 obtain ⟨v8, ho, k⟩ := Yb k
 refine a0i ent66 Y Y Y Y I (a6a _ _ _ ho I.sat (N.mono p)) ?_
 rintro _ j2 _ i8 hp h8 ⟨rfl, rfl⟩
 refine a4c Y Y Y (a0m Y Y Y Y (a0e (a0k (fun a ha => ?_))))
 cases k
 exact ⟨_, hp, h8.Yp [0, 1, 2] Y Y, ha.cut (l := [2, 3, 4, 21]) Y⟩
theorem ent40 : Ent Tryz.prog 40 := fun _ _ => by kernel_rfl
theorem ent39 : Ent Tryz.prog 39 := fun _ _ => by kernel_rfl
def b6f (n : Nat) (p1 : Int) (q1 : Int) : Option (Frac × Int) :=
 (b8j n p1).bind fun v1 =>
 (b8j n q1).bind fun v2 =>
 (c0h n v1 v2).bind fun v3 =>
 some (v3.1, v3.2)
theorem b5q (n : Nat) (p1 : Int) (q1 : Int) (r : (Frac × Int)) (hm : b6f n p1 q1 = some r) {w : World} {F : Frz} (hs : Sat F w)  :
  Calls Tryz.prog 12 #[.int .i64 p1, .int .i64 q1] w fun e w' => ∃ v F' O', e = .returned v ∧ HS F w [] F' O' w' ∧ (∃ (a0_1 : Option Addr) (n0_1 : Nat) (c0_1 : Nat) (a0_3 : Option Addr) (n0_3 : Nat) (c0_3 : Nat), v = .tuple #[.agg #[.int .i64 r.1.P.Sign, .slice a0_1 n0_1 c0_1, .int .i64 r.1.Q.Sign, .slice a0_3 n0_3 c0_3], .int .i64 r.2] ∧ O' = [] ∧ SlR (Rp.int .i64) F' a0_1 n0_1 c0_1 r.1.P.Digits ∧ SlR (Rp.int .i64) F' a0_3 n0_3 c0_3 r.1.Q.Digits) := by
 unfold b6f at hm
 have h := HS.init hs
 refine a1a 13 Tryz.func12 Y Y Y (a0g (a0a (a1h ze37 Y Y Y h ?_)))
 intro b1 L g
 refine a0b Y Y Y (a0e (a0c (a0g (a0a (a0d Y Y Y ?_)))))
 obtain ⟨v1, u, hm⟩ := Yb hm
 refine a0i ent40 Y Y Y Y g (c0a _ _ _ u g.sat) ?_
 rintro _ M _ N R j ⟨T, U, V, rfl, rfl, x⟩
 refine a0d Y Y Y ?_
 obtain ⟨v2, y, hm⟩ := Yb hm
 refine a0i ent40 Y Y Y Y j (c0a _ _ _ y j.sat) ?_
 rintro _ Z _ g0 z k ⟨g1, g2, g3, rfl, rfl, G⟩
 obtain ⟨v3, H, hm⟩ := Yb hm
 refine a0i ent39 Y Y Y Y k (c3p _ _ _ _ H k.sat (x.mono z) G) ?_
 rintro _ g4 _ g5 g6 I ⟨l, m, o, p, q, s, rfl, rfl, J, K⟩
 refine a0l Y Y Y Y (a0l Y Y Y Y (a0o sz37 Y I Y Y Y Y (i := 0) Y Y Y Y ?_))
 intro g7 t
 refine a0b Y Y Y (a0e (a0c (a1c (a1q (vl := [.agg #[.int .i64 v3.1.P.Sign, .slice l m o, .int .i64 v3.1.Q.Sign, .slice p q s], .int .i64 v3.2]) Y ⟨a2h ag37 sz37 Y t Y (i := 0) Y, a1p Y, trivial⟩ (by simp) ?_))))
 obtain rfl := Yo hm
 exact ⟨_, _, _, Y, t.Yp [] Y Y, l, m, o, p, q, s, Y, Y, J, K⟩
theorem ent12 : Ent Tryz.prog 12 := fun _ _ => by kernel_rfl
def b2p (n : Nat) (nx1 : Int) : Option Frac :=
 (b6f n nx1 1).bind fun v1 =>
 some v1.1
theorem b1w (n : Nat) (nx1 : Int) (r : Frac) (hm : b2p n nx1 = some r) {w : World} {F : Frz} (hs : Sat F w)  :
  Calls Tryz.prog 13 #[.int .i64 nx1] w fun e w' => ∃ v F' O', e = .returned v ∧ HS F w [] F' O' w' ∧ (∃ (a0_1 : Option Addr) (n0_1 : Nat) (c0_1 : Nat) (a0_3 : Option Addr) (n0_3 : Nat) (c0_3 : Nat), v = .agg #[.int .i64 r.P.Sign, .slice a0_1 n0_1 c0_1, .int .i64 r.Q.Sign, .slice a0_3 n0_3 c0_3] ∧ O' = [] ∧ SlR (Rp.int .i64) F' a0_1 n0_1 c0_1 r.P.Digits ∧ SlR (Rp.int .i64) F' a0_3 n0_3 c0_3 r.Q.Digits) := by
 unfold b2p at hm
 have h := HS.init hs
 refine a1a 11 Tryz.func13 Y Y Y (a0g (a0a (a1h ze37 Y Y Y h ?_)))
 intro b1 G g
 refine a0e (a0c (a0g (a0a (a0d Y Y Y ?_))))
 obtain ⟨v1, l, hm⟩ := Yb hm
 refine a0i ent12 Y Y Y Y g (b5q _ _ _ _ l g.sat) ?_
 rintro _ H _ I J m ⟨o, p, q, s, t, u, rfl, rfl, x, y⟩
 refine a0d Y Y Y (a0l Y Y Y Y (a0l Y Y Y Y (a1h ze37 Y Y Y m ?_)))
 intro b2 K z
 refine a0o sz37 Y z Y Y Y Y (i := 0) Y Y Y Y ?_
 intro L j
 refine a0b Y Y Y (a0e (a0c (a0g (a0a (a0q ag37 sz37 Y Y j Y (i := 0) Y Y (a0o sz37 Y j Y Y Y Y (i := 1) Y Y Y Y ?_))))))
 intro M k
 refine a0e (a0c (a1c (a3h Y ag37 sz37 Y k Y (i := 1) Y ?_)))
 obtain rfl := Yo hm
 exact ⟨_, _, _, Y, k.Yp [] Y Y, o, p, q, s, t, u, Y, Y, x, y⟩
end Go.Proofs.YtknpjecpcmajiaaGreatDoor.M

namespace Go.Proofs.YtknpjecpcmajiaaGreatDoor.M
open Go Go.RowKit Rt
def b7h (_n : Nat) (nx1 : Int) (high1 : Int) : Option Bool :=
 (bif decide (0 ≤ nx1) then
  some (decide (nx1 ≤ high1))
 else
  some false).bind fun v1 =>
 some v1
theorem b8y (n : Nat) (nx1 : Int) (high1 : Int) (r : Bool) (hm : b7h n nx1 high1 = some r) {w : World}  :
  Calls Tryz.prog 45 #[.int .i64 nx1, .int .i64 high1] w fun e w' => e = .returned (.bool r) ∧ w' = w := by
 unfold b7h at hm
 refine a1a 12 Tryz.func45 Y Y Y (a0g (a0a (a0b Y Y Y (a0e (a0c (a0g (a0a (a0d Y Y Y (a0u Y Y Y Y Y (a0d Y Y Y ?_))))))))))
 obtain ⟨v1, g, hm⟩ := Yb hm
 refine a2g 4 (fun a w' => w = w' ∧ Has 12 a [(11, .bool v1)]) ?_ ?_
 rintro a j ⟨rfl, i⟩
 refine a1d i (a0b Y Y Y (a0e (a0c (a1c (a1n Y Y ?_)))))
 obtain rfl := Yo hm
 exact ⟨Y, Y⟩
 clear hm
 rcases a0h g with ⟨h, g⟩ | ⟨h, g⟩
 refine a1k 7 Y h (a0d Y Y Y (a0d Y Y Y (a0u Y Y Y Y Y (a0s Y Y Y Y (a0e (a0k (fun a ha => ?_)))))))
 cases g
 exact ⟨Y, ha.cut (l := [11]) Y⟩
 refine a1k 7 Y h (a0y Y (by decide) Y (a0y Y (by decide) Y (a0y Y (by decide) Y (a0m Y Y Y Y (a0e (a0k (fun a ha => ?_)))))))
 cases g
 exact ⟨Y, ha.cut (l := [11]) Y⟩
theorem ent45 : Ent Tryz.prog 45 := fun _ _ => by kernel_rfl
def a8x (n : Nat) (k1 : Int) : Option Bool :=
 (b7h n k1 200).bind fun v1 =>
 some (!v1)
theorem c0x (n : Nat) (k1 : Int) (r : Bool) (hm : a8x n k1 = some r) {w : World}  :
  Calls Tryz.prog 44 #[.int .i64 k1] w fun e w' => e = .returned (.bool r) ∧ w' = w := by
 unfold a8x at hm
 refine a1a 6 Tryz.func44 Y Y Y (a0g (a0a (a0b Y Y Y (a0e (a0c (a0g (a0a (a0d Y Y Y ?_))))))))
 obtain ⟨v1, g, hm⟩ := Yb hm
 refine a2t ent45 Y Y Y Y (b8y _ _ _ _ g) (a4c Y Y Y (a0b Y Y Y (a0e (a0c (a1c (a1n Y Y ?_))))))
 obtain rfl := Yo hm
 exact ⟨Y, Y⟩
theorem ent35 : Ent Tryz.prog 35 := fun _ _ => by kernel_rfl
def a8v (n : Nat) (wx1 : Frac) : Option Bool :=
 (a3s n wx1).bind fun v1 =>
 (bif !v1 then
  some true
 else
  (b2z n wx1).bind fun v3 =>
  some (decide (v3 < 0))).bind fun v2 =>
 some v2
theorem c0v (n : Nat) (g : Frac) (r : Bool) (hm : a8v n g = some r) {w : World} {F : Frz} (hs : Sat F w) {m o : Option Addr} {p q s t : Nat} (z : SlR (Rp.int .i64) F m p q g.P.Digits) (G : SlR (Rp.int .i64) F o s t g.Q.Digits) :
  Calls Tryz.prog 46 #[.agg #[.int .i64 g.P.Sign, .slice m p q, .int .i64 g.Q.Sign, .slice o s t]] w fun e w' => ∃ v F' O', e = .returned v ∧ HS F w [] F' O' w' ∧ (v = .bool r ∧ O' = []) := by
 unfold a8v at hm
 have h := HS.init hs
 refine a1a 11 Tryz.func46 Y Y Y (a0g (a0a (a2z Y Y Y Y h ?_)))
 intro b1 T u
 refine a0b Y Y Y (a0e (a0c (a0g (a0a (a0q ag37 sz37 Y Y u Y (i := 0) Y Y ?_)))))
 obtain ⟨v1, J, hm⟩ := Yb hm
 refine a0i ent47 Y Y Y Y u (a3m _ _ _ J u.sat z G) ?_
 rintro _ K _ U H k ⟨rfl, rfl⟩
 refine a4c Y Y Y (a0d Y Y Y ?_)
 obtain ⟨v2, j, hm⟩ := Yb hm
 refine a2g 4 (fun a w' => ∃ (x : Frz), Frz.le K x ∧ HS F w [] x [.box b1 37 [.int .i64 g.P.Sign, .slice m p q, .int .i64 g.Q.Sign, .slice o s t]] w' ∧ Has 11 a [(10, .bool v2)]) ?_ ?_
 rintro a V ⟨x, Z, L, I⟩
 refine a1d I (a0b Y Y Y (a0e (a0c (a1c (a1n Y Y ?_)))))
 obtain rfl := Yo hm
 exact ⟨_, _, _, Y, L.Yp [] Y Y, Y, Y⟩
 clear hm
 rcases a0h j with ⟨y, j⟩ | ⟨y, j⟩
 refine a1k 6 Y y (a0y Y (by decide) Y (a0y Y (by decide) Y (a0y Y (by decide) Y (a0s Y Y Y Y (a0e (a0k (fun a ha => ?_)))))))
 cases j
 exact ⟨_, Yf, k.Yp [0] Y Y, ha.cut (l := [10]) Y⟩
 refine a1k 6 Y y (a0q ag37 sz37 Y Y k Y (i := 0) Y Y ?_)
 obtain ⟨v3, M, j⟩ := Yb j
 refine a0i ent35 Y Y Y Y k (b7g _ _ _ M k.sat (z.mono H) (G.mono H)) ?_
 rintro _ g0 _ g1 N R ⟨rfl, rfl⟩
 refine a0u Y Y Y Y Y (a0m Y Y Y Y (a0e (a0k (fun a ha => ?_))))
 cases j
 exact ⟨_, N, R.Yp [0] Y Y, ha.cut (l := [10]) Y⟩
theorem u31 : Tryz.prog.underlying 31 = some (.slice 37) := by kernel_rfl
def a1t (n : Nat) (s1 : (List Frac)) (f1 : (Frac → Option Bool)) (kont1 : Option Int) : Nat → Int → Option Int
 | 0, _ => none
 | mx1 + 1, i1 =>
  bif decide (i1 < (s1.length : Int)) then
   (ix s1 i1).bind fun ex1 =>
   (f1 ex1).bind fun v1 =>
   bif v1 then
    some i1
   else
    a1t n s1 f1 kont1 mx1 (iadd .i64 i1 1)
  else
   kont1
theorem a2y (n : Nat) (s1 : (List Frac)) (f1 : (Frac → Option Bool)) (kont1 : Option Int) (mx1 : Nat) (i1 : Int) : a1t n s1 f1 kont1 (mx1 + 1) i1 =
  bif decide (i1 < (s1.length : Int)) then
   (ix s1 i1).bind fun ex1 =>
   (f1 ex1).bind fun v1 =>
   bif v1 then
    some i1
   else
    a1t n s1 f1 kont1 mx1 (iadd .i64 i1 1)
  else
   kont1 := rfl
def a3g (n : Nat) (s1 : (List Frac)) (f1 : (Frac → Option Bool)) : Option Int :=
 a1t n s1 f1 (
  some (-1)) n 0
theorem a8k (n : Nat) (s1 : (List Frac)) (f1 : (Frac → Option Bool)) (r : Int) (hm : a3g n s1 f1 = some r) {w : World} {F : Frz} (hs : Sat F w) {i : Option Addr} {j : Nat} {k : Nat} {fvf1 : Value} (x : SlR rp_Frac F i j k s1) (hpff1 : GFn Tryz.prog F fvf1 (fun F l v => ∃ (q0 : Frac) (a0_0 : Option Addr) (n0_0 : Nat) (c0_0 : Nat) (a0_1 : Option Addr) (n0_1 : Nat) (c0_1 : Nat) (b : Bool), l = [.agg #[.int .i64 q0.P.Sign, .slice a0_0 n0_0 c0_0, .int .i64 q0.Q.Sign, .slice a0_1 n0_1 c0_1]] ∧ SlR (Rp.int .i64) F a0_0 n0_0 c0_0 q0.P.Digits ∧ SlR (Rp.int .i64) F a0_1 n0_1 c0_1 q0.Q.Digits ∧ v = some (.bool b) ∧ f1 q0 = some b)) :
  Calls Tryz.prog 78 #[.slice i j k, fvf1] w fun e w' => ∃ v F' O', e = .returned v ∧ HS F w [] F' O' w' ∧ (v = .int .i64 r ∧ O' = []) := by
 unfold a3g at hm
 have h := HS.init hs
 refine a1a 19 Tryz.func78 Y Y Y (a0g (a0a (a0b Y Y Y (a0e (a0c (a0g (a0g (a0a (a0d Y Y Y (a1y x.len u31 Y Y Y (a0d Y Y Y (a0e (a0c (a1j ?_))))))))))))))
 intro a G
 obtain ⟨kont1, hkont1⟩ : ∃ kont1 : Option Int, kont1 = ( some (-1)) := ⟨_, Y⟩
 replace hm : (fun m (s : Int) => a1t n s1 f1 kont1 m s) n 0 = some r := by rw [hkont1]; exact hm
 refine a5j (id := 0) (fun m (s : Int) => a1t n s1 f1 kont1 m s) (fun (y : Unit) => kont1) r (fun (s : Int) a w' => ∃ (o : Frz), Frz.le F o ∧ HS F w [] o [] w' ∧ Has 19 a [(0, .slice i j k), (1, fvf1), (7, .int .i64 (s1.length : Int)), (8, .int .i64 s)]) (fun (y : Unit) a w' => ∃ (p : Frz), Frz.le F p ∧ HS F w [] p [] w' ∧ Has 19 a []) (fun _ => Y) ?_ ?_ hm ⟨_, Yf, h.Yp [] Y Y, G.cut (l := [0, 1, 7, 8]) Y⟩
 clear hm; rintro _u a g0 hm ⟨p, g1, J, H⟩
 rw [hkont1] at hm
 refine a2c (e := .exit 0) H (a1m (a0c (a0g (a0a (a0b Y Y Y (a0e (a0c (a1c (a1n Y Y ?_)))))))))
 obtain rfl := Yo hm
 exact ⟨_, _, _, Y, J.Yp [] Y Y, Y, Y⟩
 clear hm hkont1; intro hk1 mx1 K ihx1
 rintro i1 a g2 hm ⟨o, g, q, I⟩
 simp only [a2y] at hm
 refine a1l I (a0g (a0a (a0u Y Y Y Y Y (a0e (a0c (a0g ?_))))))
 rcases a0h hm with ⟨t, hm⟩ | ⟨t, hm⟩
 refine a0r 9 Y t (a0x Y (a1b (a0c (a0g (a1j (a0g (a0a (a0d Y Y Y (a0b Y Y Y (a0e (a0c (a0g (a0a (a0d Y Y Y (a0d Y Y Y (a0d Y Y Y ?_))))))))))))))))
 obtain ⟨ex1, L, hm⟩ := Yb hm
 refine a2r (r := rp_Frac) u31 sz37 Y Y Y Y (x.mono g) L ?_
 intro b1 o1 g3 M N
 obtain ⟨g4, g5, g6, g7, g8, g9, R, T, U⟩ := N
 subst R
 refine a3c ag37 sz37 Y Y q M Y Y ?_
 obtain ⟨v1, V, hm⟩ := Yb hm
 refine c3c (hpff1.mono g) Y Y Y Y q ⟨_, _, _, _, _, _, _, _, Y, T, U, Y, V⟩ ?_
 intro ga gb Z z
 refine a0e (a0c ?_)
 rcases a0h hm with ⟨u, hm⟩ | ⟨u, hm⟩
 refine a0r 16 Y u (a0x Y (a0g (a0a (a0d Y Y Y (a0b Y Y Y (a0e (a0c (a1c (a0t (a0j (a0j (a0t (a0j (a1n Y Y ?_))))))))))))))
 obtain rfl := Yo hm
 exact ⟨_, _, _, Y, z.Yp [] Y Y, Y, Y⟩
 refine a0r 16 Y u (a0p Y (a1b (a1o (a0c (a0a (a0u Y Y Y Y Y (a0d Y Y Y (a0e (a0k (fun a ha => ihx1 (iadd .i64 i1 1) a _ hm ?_))))))))))
 exact ⟨_, (g.trans Z), z.Yp [] Y Y, ha.cut (l := [0, 1, 7, 8]) Y⟩
 refine a0r 9 Y t (a0p Y (a3p (a0w (a0w (fun a ha => hk1 () a _ hm ?_)))))
 exact ⟨_, g, q.Yp [] Y Y, ha.cut (l := []) Y⟩
theorem ent78 : Ent Tryz.prog 78 := fun _ _ => by kernel_rfl
def a2m (n : Nat) (s1 : (List Frac)) (f1 : (Frac → Option Bool)) : Option Bool :=
 (a3g n s1 f1).bind fun v1 =>
 some (decide (0 ≤ v1))
theorem a7i (n : Nat) (s1 : (List Frac)) (f1 : (Frac → Option Bool)) (r : Bool) (hm : a2m n s1 f1 = some r) {w : World} {F : Frz} (hs : Sat F w) {g : Option Addr} {i : Nat} {j : Nat} {fvf1 : Value} (k : SlR rp_Frac F g i j s1) (hpff1 : GFn Tryz.prog F fvf1 (fun F l v => ∃ (q0 : Frac) (a0_0 : Option Addr) (n0_0 : Nat) (c0_0 : Nat) (a0_1 : Option Addr) (n0_1 : Nat) (c0_1 : Nat) (b : Bool), l = [.agg #[.int .i64 q0.P.Sign, .slice a0_0 n0_0 c0_0, .int .i64 q0.Q.Sign, .slice a0_1 n0_1 c0_1]] ∧ SlR (Rp.int .i64) F a0_0 n0_0 c0_0 q0.P.Digits ∧ SlR (Rp.int .i64) F a0_1 n0_1 c0_1 q0.Q.Digits ∧ v = some (.bool b) ∧ f1 q0 = some b)) :
  Calls Tryz.prog 49 #[.slice g i j, fvf1] w fun e w' => ∃ v F' O', e = .returned v ∧ HS F w [] F' O' w' ∧ (v = .bool r ∧ O' = []) := by
 unfold a2m at hm
 have h := HS.init hs
 refine a1a 9 Tryz.func49 Y Y Y (a0g (a0a (a0b Y Y Y (a0e (a0c (a0g (a0a (a0d Y Y Y (a0d Y Y Y ?_)))))))))
 obtain ⟨v1, m, hm⟩ := Yb hm
 refine a0i ent78 Y Y Y Y h (a8k _ _ _ _ m h.sat k hpff1) ?_
 rintro _ p _ q s o ⟨rfl, rfl⟩
 refine a0u Y Y Y Y Y (a0b Y Y Y (a0e (a0c (a1c (a1n Y Y ?_)))))
 obtain rfl := Yo hm
 exact ⟨_, _, _, Y, o.Yp [] Y Y, Y, Y⟩
structure Facts where
 Lifts : (List Int)
 Persons : Int
 Flats : Int
 deriving DecidableEq, Inhabited
def rp_Facts : Rp Facts where
 k := 3
 R := fun F cs x => ∃ (a0 : Option Addr) (n0 : Nat) (c0 : Nat), cs = [.slice a0 n0 c0, .int .i64 x.Persons, .int .i64 x.Flats] ∧ SlR (Rp.int .i64) F a0 n0 c0 x.Lifts
 len := by rintro F cs x ⟨a0, n0, c0, h, _⟩; simp [h]
 mono := by rintro F F' cs x hF ⟨a0, n0, c0, h, h0⟩; exact ⟨a0, n0, c0, h, h0.mono hF⟩
 one := by rintro F cs x ⟨a0, n0, c0, h, _⟩ u hu; subst h; simp at hu; rcases hu with rfl | rfl | rfl <;> rfl
theorem fa30_0 : a4v Tryz.prog 30 0 0 := fun _ _ _ => by kernel_rfl
theorem ent46 : Ent Tryz.prog 46 := fun _ _ => by kernel_rfl
theorem ent49 : Ent Tryz.prog 49 := fun _ _ => by kernel_rfl
theorem ent44 : Ent Tryz.prog 44 := fun _ _ => by kernel_rfl
theorem fa30_2 : a4v Tryz.prog 30 2 2 := fun _ _ _ => by kernel_rfl
theorem fa30_1 : a4v Tryz.prog 30 1 1 := fun _ _ _ => by kernel_rfl
def b3t (n : Nat) (f1 : Facts) (weights1 : (List Frac)) (nx1 : Int) : Option Bool :=
 (bif (f1.Lifts.length : Int) == nx1 then
  some ((weights1.length : Int) == nx1)
 else
  some false).bind fun v1 =>
 (bif v1 then
  (b7h n f1.Persons 1000).bind fun v9 =>
  some v9
 else
  some false).bind fun v2 =>
 (bif v2 then
  (b7h n f1.Flats 1000).bind fun v8 =>
  some v8
 else
  some false).bind fun v3 =>
 (bif v3 then
  (a3b n f1.Lifts (a8x n)).bind fun v7 =>
  some (!v7)
 else
  some false).bind fun v4 =>
 (bif v4 then
  (a2m n weights1 (a8v n)).bind fun v6 =>
  some (!v6)
 else
  some false).bind fun v5 =>
 some v5
theorem c3z (n : Nat) (f1 : Facts) (weights1 : (List Frac)) (nx1 : Int) (r : Bool) (hm : b3t n f1 weights1 nx1 = some r) {w : World} {F : Frz} (hs : Sat F w) {x p : Option Addr} {y z q s : Nat} (R : SlR (Rp.int .i64) F x y z f1.Lifts) (T : SlR rp_Frac F p q s weights1) :
  Calls Tryz.prog 21 #[.agg #[.slice x y z, .int .i64 f1.Persons, .int .i64 f1.Flats], .slice p q s, .int .i64 nx1] w fun e w' => ∃ v F' O', e = .returned v ∧ HS F w [] F' O' w' ∧ (v = .bool r ∧ O' = []) := by
 unfold b3t at hm
 have h := HS.init hs
 refine a1a 43 Tryz.func21 Y Y Y (a0g (a0a (a2z Y Y Y Y h ?_)))
 intro b1 H g
 refine a0b Y Y Y (a0e (a0c (a0g (a0a (a0b Y Y Y (a0e (a0c (a0g (a0a (a0b Y Y Y (a0e (a0c (a0g (a0a (a0f fa30_0 Y Y Y (a0n ag28 Y Y g Y (i := 0) Y Y (a1y R.len u28 Y Y Y (a0d Y Y Y (a0u Y Y Y Y Y (a0d Y Y Y ?_))))))))))))))))))))
 obtain ⟨v1, t, hm⟩ := Yb hm
 refine a2g 5 (fun a w' => H = w' ∧ Has 43 a [(1, .slice p q s), (3, .pointer (some ⟨b1, 0, none⟩)), (7, .func (.func 44) #[] #[]), (8, .func (.func 46) #[] #[]), (19, .bool v1)]) ?_ ?_
 ·rintro a gc ⟨rfl, U⟩
  refine a1d U (a0d Y Y Y ?_)
  obtain ⟨v2, j, hm⟩ := Yb hm
  refine a2g 4 (fun a w' => H = w' ∧ Has 43 a [(1, .slice p q s), (3, .pointer (some ⟨b1, 0, none⟩)), (7, .func (.func 44) #[] #[]), (8, .func (.func 46) #[] #[]), (24, .bool v2)]) ?_ ?_
  ·rintro a gd ⟨rfl, V⟩
   refine a1d V (a0d Y Y Y ?_)
   obtain ⟨v3, k, hm⟩ := Yb hm
   refine a2g 4 (fun a w' => H = w' ∧ Has 43 a [(1, .slice p q s), (3, .pointer (some ⟨b1, 0, none⟩)), (7, .func (.func 44) #[] #[]), (8, .func (.func 46) #[] #[]), (29, .bool v3)]) ?_ ?_
   ·rintro a ge ⟨rfl, Z⟩
    refine a1d Z (a0d Y Y Y ?_)
    obtain ⟨v4, m, hm⟩ := Yb hm
    refine a2g 6 (fun a w' => ∃ (G : Frz), Frz.le F G ∧ HS F w [] G [.box b1 30 [.slice x y z, .int .i64 f1.Persons, .int .i64 f1.Flats]] w' ∧ Has 43 a [(1, .slice p q s), (8, .func (.func 46) #[] #[]), (36, .bool v4)]) ?_ ?_
    ·rintro a gf ⟨G, g2, I, g0⟩
     refine a1d g0 (a0d Y Y Y ?_)
     obtain ⟨v5, o, hm⟩ := Yb hm
     refine a2g 5 (fun a w' => ∃ (J : Frz), Frz.le G J ∧ HS F w [] J [.box b1 30 [.slice x y z, .int .i64 f1.Persons, .int .i64 f1.Flats]] w' ∧ Has 43 a [(42, .bool v5)]) ?_ ?_
     ·rintro a gg ⟨J, gh, g3, g1⟩
      refine a1d g1 (a0b Y Y Y (a0e (a0c (a1c (a1n Y Y ?_)))))
      obtain rfl := Yo hm
      exact ⟨_, _, _, Y, g3.Yp [] Y Y, Y, Y⟩
     ·clear hm
      rcases a0h o with ⟨K, o⟩ | ⟨K, o⟩
      ·refine a1k 37 rfl K ?_
       refine a0d Y Y Y (a0d Y Y Y ?_)
       obtain ⟨v6, g4, o⟩ := Yb o
       refine a0i ent49 Y Y Y Y I (a7i _ _ _ _ g4 I.sat (T.mono g2) (show GFn Tryz.prog _ (.func (.func 46) #[] #[]) (fun F l v => ∃ (q0 : Frac) (a0_0 : Option Addr) (n0_0 : Nat) (c0_0 : Nat) (a0_1 : Option Addr) (n0_1 : Nat) (c0_1 : Nat) (b : Bool), l = [.agg #[.int .i64 q0.P.Sign, .slice a0_0 n0_0 c0_0, .int .i64 q0.Q.Sign, .slice a0_1 n0_1 c0_1]] ∧ SlR (Rp.int .i64) F a0_0 n0_0 c0_0 q0.P.Digits ∧ SlR (Rp.int .i64) F a0_1 n0_1 c0_1 q0.Q.Digits ∧ v = some (.bool b) ∧ (a8v n) q0 = some b) from ⟨46, #[], Y, ent46, fun F' hF' args r w hsat h => by
                               obtain ⟨q0, a0_0, n0_0, c0_0, a0_1, n0_1, c0_1, b, rfl, hs0_0, hs0_1, hv, hb⟩ := h
                               obtain rfl := Yo hv
                               exact (c0v n q0 _ hb hsat hs0_0 hs0_1).mono (by rintro _ _ ⟨v, F2, O', h1, h2, rfl, rfl⟩; exact ⟨_, F2, _, h1, h2, rfl, rfl⟩)⟩)) ?_
       rintro _ gi _ gj g5 g6 ⟨rfl, rfl⟩
       refine a4c Y Y Y (a0s Y Y Y Y (a0e (a0k (fun a ha => ?_))))
       cases o
       exact ⟨_, g5, g6.Yp [0] Y Y, ha.cut (l := [42]) Y⟩
      ·refine a1k 37 rfl K ?_
       refine a0y Y (by decide) Y (a0y Y (by decide) Y (a0y Y (by decide) Y (a0y Y (by decide) Y (a0m Y Y Y Y (a0e (a0k (fun a ha => ?_)))))))
       cases o
       exact ⟨_, Yf, I.Yp [0] Y Y, ha.cut (l := [42]) Y⟩
    ·clear hm
     rcases a0h m with ⟨L, m⟩ | ⟨L, m⟩
     ·refine a1k 30 rfl L ?_
      refine a0f fa30_0 Y Y Y (a0n ag28 Y Y g Y (i := 0) Y Y (a0d Y Y Y ?_))
      obtain ⟨v7, g7, m⟩ := Yb m
      refine a0i ent48 Y Y Y Y g (a6n _ _ _ _ g7 g.sat R (show GFn Tryz.prog _ (.func (.func 44) #[] #[]) (fun _ l v => ∃ (q0 : Int) (b : Bool), l = [.int .i64 q0] ∧ v = some (.bool b) ∧ (a8x n) q0 = some b) from ⟨44, #[], Y, ent44, fun F' hF' args r w hsat h => by
                               obtain ⟨q0, b, rfl, hv, hb⟩ := h
                               obtain rfl := Yo hv
                               exact (c0x n q0 _ hb).mono (by rintro _ _ ⟨rfl, rfl⟩; exact ⟨_, F', [], rfl, HS.init hsat, rfl, rfl⟩)⟩)) ?_
      rintro _ gk _ gl g8 g9 ⟨rfl, rfl⟩
      refine a4c Y Y Y (a0s Y Y Y Y (a0e (a0k (fun a ha => ?_))))
      cases m
      exact ⟨_, g8, g9.Yp [0] Y Y, ha.cut (l := [1, 8, 36]) Y⟩
     ·refine a1k 30 rfl L ?_
      refine a0y Y (by decide) Y (a0y Y (by decide) Y (a0y Y (by decide) Y (a0y Y (by decide) Y (a0y Y (by decide) Y (a0m Y Y Y Y (a0e (a0k (fun a ha => ?_))))))))
      cases m
      exact ⟨_, Yf, g.Yp [0] Y Y, ha.cut (l := [1, 8, 36]) Y⟩
   ·clear hm
    rcases a0h k with ⟨M, k⟩ | ⟨M, k⟩
    ·refine a1k 25 rfl M ?_
     refine a0f fa30_2 Y Y Y (a0n ag3 Y Y g Y (i := 0) Y Y ?_)
     obtain ⟨v8, ga, k⟩ := Yb k
     refine a2t ent45 Y Y Y Y (b8y _ _ _ _ ga) (a0s Y Y Y Y (a0e (a0k (fun a ha => ?_))))
     cases k
     exact ⟨Y, ha.cut (l := [1, 3, 7, 8, 29]) Y⟩
    ·refine a1k 25 rfl M ?_
     refine a0y Y (by decide) Y (a0y Y (by decide) Y (a0y Y (by decide) Y (a0m Y Y Y Y (a0e (a0k (fun a ha => ?_))))))
     cases k
     exact ⟨Y, ha.cut (l := [1, 3, 7, 8, 29]) Y⟩
  ·clear hm
   rcases a0h j with ⟨N, j⟩ | ⟨N, j⟩
   ·refine a1k 20 rfl N ?_
    refine a0f fa30_1 Y Y Y (a0n ag3 Y Y g Y (i := 0) Y Y ?_)
    obtain ⟨v9, gb, j⟩ := Yb j
    refine a2t ent45 Y Y Y Y (b8y _ _ _ _ gb) (a0s Y Y Y Y (a0e (a0k (fun a ha => ?_))))
    cases j
    exact ⟨Y, ha.cut (l := [1, 3, 7, 8, 24]) Y⟩
   ·refine a1k 20 rfl N ?_
    refine a0y Y (by decide) Y (a0y Y (by decide) Y (a0y Y (by decide) Y (a0m Y Y Y Y (a0e (a0k (fun a ha => ?_))))))
    cases j
    exact ⟨Y, ha.cut (l := [1, 3, 7, 8, 24]) Y⟩
 ·clear hm
  rcases a0h t with ⟨u, t⟩ | ⟨u, t⟩
  ·refine a1k 14 rfl u ?_
   refine a0d Y Y Y (a1y T.len u31 Y Y Y (a0d Y Y Y (a0u Y Y Y Y Y (a0s Y Y Y Y (a0e (a0k (fun a ha => ?_)))))))
   cases t
   exact ⟨Y, ha.cut (l := [1, 3, 7, 8, 19]) Y⟩
  ·refine a1k 14 rfl u ?_
   refine a0y Y (by decide) Y (a0y Y (by decide) Y (a0y Y (by decide) Y (a0y Y (by decide) Y (a0m Y Y Y Y (a0e (a0k (fun a ha => ?_)))))))
   cases t
   exact ⟨Y, ha.cut (l := [1, 3, 7, 8, 19]) Y⟩
theorem sz28 : a4i Tryz.prog 28 1 := fun _ => by kernel_rfl
def b4c (n : Nat) (f1 : Frac) : Option Frac :=
 ((a1w n f1.P.Digits).bind fun v1 =>
 (a1w n f1.Q.Digits).bind fun v2 =>
 some (v1, v2)).bind fun (f2, f3) =>
 some (⟨(⟨f1.P.Sign, f2⟩ : Big), (⟨f1.Q.Sign, f3⟩ : Big)⟩ : Frac)
theorem c3s (n : Nat) (f1 : Frac) (r : Frac) (hm : b4c n f1 = some r) {w : World} {F : Frz} (hs : Sat F w) {g5 g6 : Option Addr} {g7 g8 g9 ga : Nat} (g3 : SlR (Rp.int .i64) F g5 g7 g8 f1.P.Digits) (g4 : SlR (Rp.int .i64) F g6 g9 ga f1.Q.Digits) :
  Calls Tryz.prog 22 #[.agg #[.int .i64 f1.P.Sign, .slice g5 g7 g8, .int .i64 f1.Q.Sign, .slice g6 g9 ga]] w fun e w' => ∃ v F' O', e = .returned v ∧ HS F w [] F' O' w' ∧ (∃ (a0_1 : Option Addr) (n0_1 : Nat) (c0_1 : Nat) (a0_3 : Option Addr) (n0_3 : Nat) (c0_3 : Nat), v = .agg #[.int .i64 r.P.Sign, .slice a0_1 n0_1 c0_1, .int .i64 r.Q.Sign, .slice a0_3 n0_3 c0_3] ∧ O' = [] ∧ SlR (Rp.int .i64) F' a0_1 n0_1 c0_1 r.P.Digits ∧ SlR (Rp.int .i64) F' a0_3 n0_3 c0_3 r.Q.Digits) := by
 unfold b4c at hm
 have h := HS.init hs
 refine a1a 16 Tryz.func22 Y Y Y (a0g (a0a (a2z Y Y Y Y h ?_)))
 intro b1 gq gm
 refine a1h ze37 Y Y Y gm ?_
 intro b2 gr gn
 refine a0e (a0c ?_)
 obtain ⟨⟨f2, f3⟩, k, hm⟩ := Yb hm
 refine c5g (fun a w' => ∃ (z : Frz) (U : Option Addr) (V : Nat) (Z : Nat) (g0 : Option Addr) (g1 : Nat) (g2 : Nat), Frz.le F z ∧ HS F w [] z [.box b2 37 [.int .i64 0, .slice none 0 0, .int .i64 0, .slice none 0 0], .box b1 37 [.int .i64 f1.P.Sign, .slice U V Z, .int .i64 f1.Q.Sign, .slice g0 g1 g2]] w' ∧ (SlR (Rp.int .i64) z U V Z f2) ∧ (SlR (Rp.int .i64) z g0 g1 g2 f3) ∧ Has 16 a [(1, .pointer (some ⟨b1, 0, none⟩)), (2, .pointer (some ⟨b2, 0, none⟩))]) ?_ ?_
 rintro a gs ⟨z, U, V, Z, g0, g1, g2, gt, gb, go, gp, gl⟩
 refine a1l gl (a0g (a0a (a0q ag37 sz37 Y Y gb Y (i := 1) Y Y (a0o sz37 Y gb Y Y Y Y (i := 0) Y Y Y Y ?_))))
 intro gu gc
 refine a0e (a0c (a1c (a3h Y ag37 sz37 Y gc Y (i := 0) Y ?_)))
 obtain rfl := Yo hm
 exact ⟨_, _, _, Y, gc.Yp [] Y Y, U, V, Z, g0, g1, g2, Y, Y, go, gp⟩
 clear hm
 refine a2f (SH F [.box b2 37 [.int .i64 0, .slice none 0 0, .int .i64 0, .slice none 0 0]]) 14 Y (by kernel_rfl) gn ?_
 intro gv o
 have S0 := o.Ys Yf [0] Y Y
 refine d_tk 0 Y (by kernel_rfl) Y Y Y Y S0 (fun _ _ _ _ _ => a0f fa37_0 Y Y Y Yn) (d_tk 1 Y (by kernel_rfl) Y Y Y Y S0 (fun _ _ _ _ _ => a0f fa35_1 Y Y Y Yn) (d_tk 4 Y (by kernel_rfl) Y Y Y Y S0 (fun _ _ _ _ _ => a0f fa37_1 Y Y Y Yn) (d_tk 5 Y (by kernel_rfl) Y Y Y Y S0 (fun _ _ _ _ _ => a0f fa35_1 Y Y Y Yn) (b0p 2 6 Y Y (by kernel_rfl) ?_ ?_))))
 refine a0n ag28 Y Y o Y (i := 1) Y Y (a0v S0 (b0p 3 6 Y Y (by kernel_rfl) ?_ ?_))
 obtain ⟨v1, G, k⟩ := Yb k
 refine a0i ent50 Y Y Y Y o (a2b _ _ _ G o.sat g3) ?_
 rintro _ gd _ ge g m ⟨H, I, J, xss5, rfl, rfl, K⟩
 have S1 := m.Ys g [1] Y Y
 refine a0v S1 (a0z 6 Y (by kernel_rfl) (a0n ag28 Y Y m Y (i := 2) Y Y (a0v S1 (d_tk 8 Y (by kernel_rfl) Y Y Y Y S1 (fun _ _ _ _ _ => a0f fa37_0 Y Y Y Yn) (d_tk 9 Y (by kernel_rfl) Y Y Y Y S1 (fun _ _ _ _ _ => a0f fa35_1 Y Y Y Yn) (a0z 7 Y (by kernel_rfl) ?_))))))
 obtain ⟨v2, L, k⟩ := Yb k
 refine a0i ent50 Y Y Y Y m (a2b _ _ _ L m.sat (g4.mono g)) ?_
 rintro _ gf _ gg j p ⟨M, N, R, xss6, rfl, rfl, T⟩
 refine a0v (p.Ys (g.trans j) [2] Y Y) (a0z 10 Y (by kernel_rfl) (a0o sz28 Y p Y Y Y Y (i := 3) Y Y Y Y ?_))
 intro gh q
 have S2 := q.Ys (g.trans j) [2] Y Y
 refine a0v S2 (d_tk 11 Y (by kernel_rfl) Y Y Y Y S2 (fun _ _ _ _ _ => a0f fa37_1 Y Y Y Yn) (d_tk 12 Y (by kernel_rfl) Y Y Y Y S2 (fun _ _ _ _ _ => a0f fa35_1 Y Y Y Yn) (a0z 13 Y (by kernel_rfl) (a0o sz28 Y q Y Y Y Y (i := 3) Y Y Y Y ?_))))
 intro gi s
 refine a0v (s.Ys (g.trans j) [2] Y Y) (a2u (by kernel_rfl) ?_)
 obtain ⟨gj, t, x, hsx1⟩ := a1g s (i := 1) Y (K.mono j)
 obtain ⟨gk, u, y, hsx2⟩ := a1g x (i := 0) Y (T.mono t)
 refine a0k (fun a ha => ?_)
 cases k
 exact ⟨_, H, I, J, M, N, R, (((g.trans j).trans t).trans u), y.Yp [0, 1] Y Y, (hsx1.mono u), hsx2, ha.cut (l := [1, 2]) Y⟩
 refine a0n ag28 Y Y o Y (i := 1) Y Y (a0v S0 (a0z 3 Y (by kernel_rfl) ?_))
 obtain ⟨v1, G, k⟩ := Yb k
 refine a0i ent50 Y Y Y Y o (a2b _ _ _ G o.sat g3) ?_
 rintro _ gd _ ge g m ⟨H, I, J, xss5, rfl, rfl, K⟩
 have S3 := m.Ys g [1] Y Y
 refine a0v S3 (d_tk 8 Y (by kernel_rfl) Y Y Y Y S3 (fun _ _ _ _ _ => a0f fa37_0 Y Y Y Yn) (d_tk 9 Y (by kernel_rfl) Y Y Y Y S3 (fun _ _ _ _ _ => a0f fa35_1 Y Y Y Yn) (a0z 7 Y (by kernel_rfl) ?_)))
 obtain ⟨v2, L, k⟩ := Yb k
 refine a0i ent50 Y Y Y Y m (a2b _ _ _ L m.sat (g4.mono g)) ?_
 rintro _ gf _ gg j p ⟨M, N, R, xss6, rfl, rfl, T⟩
 refine a0v (p.Ys (g.trans j) [2] Y Y) (a0z 10 Y (by kernel_rfl) (a0o sz28 Y p Y Y Y Y (i := 3) Y Y Y Y ?_))
 intro gh q
 have S4 := q.Ys (g.trans j) [2] Y Y
 refine a0v S4 (d_tk 11 Y (by kernel_rfl) Y Y Y Y S4 (fun _ _ _ _ _ => a0f fa37_1 Y Y Y Yn) (d_tk 12 Y (by kernel_rfl) Y Y Y Y S4 (fun _ _ _ _ _ => a0f fa35_1 Y Y Y Yn) (a0z 13 Y (by kernel_rfl) (a0o sz28 Y q Y Y Y Y (i := 3) Y Y Y Y ?_))))
 intro gi s
 refine a0v (s.Ys (g.trans j) [2] Y Y) (a2u (by kernel_rfl) ?_)
 obtain ⟨gj, t, x, hsx1⟩ := a1g s (i := 1) Y (K.mono j)
 obtain ⟨gk, u, y, hsx2⟩ := a1g x (i := 0) Y (T.mono t)
 refine a0k (fun a ha => ?_)
 cases k
 exact ⟨_, H, I, J, M, N, R, (((g.trans j).trans t).trans u), y.Yp [0, 1] Y Y, (hsx1.mono u), hsx2, ha.cut (l := [1, 2]) Y⟩
 refine a0n ag28 Y Y o Y (i := 1) Y Y (a0v S0 (a0z 2 Y (by kernel_rfl) (a0n ag28 Y Y o Y (i := 1) Y Y (a0v S0 (a0z 3 Y (by kernel_rfl) ?_)))))
 obtain ⟨v1, G, k⟩ := Yb k
 refine a0i ent50 Y Y Y Y o (a2b _ _ _ G o.sat g3) ?_
 rintro _ gd _ ge g m ⟨H, I, J, xss5, rfl, rfl, K⟩
 have S5 := m.Ys g [1] Y Y
 refine a0v S5 (d_tk 8 Y (by kernel_rfl) Y Y Y Y S5 (fun _ _ _ _ _ => a0f fa37_0 Y Y Y Yn) (d_tk 9 Y (by kernel_rfl) Y Y Y Y S5 (fun _ _ _ _ _ => a0f fa35_1 Y Y Y Yn) (a0z 7 Y (by kernel_rfl) ?_)))
 obtain ⟨v2, L, k⟩ := Yb k
 refine a0i ent50 Y Y Y Y m (a2b _ _ _ L m.sat (g4.mono g)) ?_
 rintro _ gf _ gg j p ⟨M, N, R, xss6, rfl, rfl, T⟩
 refine a0v (p.Ys (g.trans j) [2] Y Y) (a0z 10 Y (by kernel_rfl) (a0o sz28 Y p Y Y Y Y (i := 3) Y Y Y Y ?_))
 intro gh q
 have S6 := q.Ys (g.trans j) [2] Y Y
 refine a0v S6 (d_tk 11 Y (by kernel_rfl) Y Y Y Y S6 (fun _ _ _ _ _ => a0f fa37_1 Y Y Y Yn) (d_tk 12 Y (by kernel_rfl) Y Y Y Y S6 (fun _ _ _ _ _ => a0f fa35_1 Y Y Y Yn) (a0z 13 Y (by kernel_rfl) (a0o sz28 Y q Y Y Y Y (i := 3) Y Y Y Y ?_))))
 intro gi s
 refine a0v (s.Ys (g.trans j) [2] Y Y) (a2u (by kernel_rfl) ?_)
 obtain ⟨gj, t, x, hsx1⟩ := a1g s (i := 1) Y (K.mono j)
 obtain ⟨gk, u, y, hsx2⟩ := a1g x (i := 0) Y (T.mono t)
 refine a0k (fun a ha => ?_)
 cases k
 exact ⟨_, H, I, J, M, N, R, (((g.trans j).trans t).trans u), y.Yp [0, 1] Y Y, (hsx1.mono u), hsx2, ha.cut (l := [1, 2]) Y⟩
theorem ent80 : Ent Tryz.prog 80 := fun _ _ => by kernel_rfl
theorem ent81 : Ent Tryz.prog 81 := fun _ _ => by kernel_rfl
theorem ent82 : Ent Tryz.prog 82 := fun _ _ => by kernel_rfl
theorem ent83 : Ent Tryz.prog 83 := fun _ _ => by kernel_rfl
theorem ent84 : Ent Tryz.prog 84 := fun _ _ => by kernel_rfl
def a8g (n : Nat) (op1 : Int) (ax1 : Frac) (b1 : Frac) : Option Frac :=
 bif op1 == 5 then
  (b4v n ax1 b1).bind fun v1 =>
  some v1.1
 else
  bif op1 == 6 then
   (b6n n ax1 b1).bind fun v2 =>
   some v2.1
  else
   bif op1 == 7 then
    (b6l n ax1 b1).bind fun v3 =>
    some v3.1
   else
    bif op1 == 8 then
     (b6h n ax1 b1).bind fun v4 =>
     some v4.1
    else
     bif op1 == 9 then
      (b6k n ax1 b1).bind fun v5 =>
      some v5.1
     else
      bif op1 == 10 then
       (b5y n ax1 b1).bind fun v6 =>
       some v6.1
      else
       some (⟨(⟨0, []⟩ : Big), (⟨0, []⟩ : Big)⟩ : Frac)
theorem b7v (n : Nat) (op1 : Int) (ax1 : Frac) (b1 : Frac) (r : Frac) (hm : a8g n op1 ax1 b1 = some r) {w : World} {F : Frz} (hs : Sat F w) {N R T U : Option Addr} {V Z g0 g1 g2 g3 g4 g5 : Nat} (j : SlR (Rp.int .i64) F N V Z ax1.P.Digits) (k : SlR (Rp.int .i64) F R g0 g1 ax1.Q.Digits) (l : SlR (Rp.int .i64) F T g2 g3 b1.P.Digits) (m : SlR (Rp.int .i64) F U g4 g5 b1.Q.Digits) :
  Calls Tryz.prog 53 #[.int .i64 op1, .agg #[.int .i64 ax1.P.Sign, .slice N V Z, .int .i64 ax1.Q.Sign, .slice R g0 g1], .agg #[.int .i64 b1.P.Sign, .slice T g2 g3, .int .i64 b1.Q.Sign, .slice U g4 g5]] w fun e w' => ∃ v F' O', e = .returned v ∧ HS F w [] F' O' w' ∧ (∃ (a0_1 : Option Addr) (n0_1 : Nat) (c0_1 : Nat) (a0_3 : Option Addr) (n0_3 : Nat) (c0_3 : Nat), v = .agg #[.int .i64 r.P.Sign, .slice a0_1 n0_1 c0_1, .int .i64 r.Q.Sign, .slice a0_3 n0_3 c0_3] ∧ O' = [] ∧ SlR (Rp.int .i64) F' a0_1 n0_1 c0_1 r.P.Digits ∧ SlR (Rp.int .i64) F' a0_3 n0_3 c0_3 r.Q.Digits) := by
 unfold a8g at hm
 have h := HS.init hs
 refine a1a 58 Tryz.func53 Y Y Y (a0g (a0a (a2z Y Y Y Y h ?_)))
 intro b2 ih h5
 refine a2z Y Y Y Y h5 ?_
 intro b3 ii h6
 refine a1h ze37 Y Y Y h6 ?_
 intro b4 ij h7
 refine a0e (a0c (a0g (a0a (a1h ze37 Y Y Y h7 ?_))))
 intro b5 ik g
 refine a0e (a0c (a0g (a0g (a0a (a0d Y Y Y (a0e (a0c (a1j (a0g (a0a (a0u Y Y Y Y Y (a0b Y Y Y (a0e (a0c ?_))))))))))))))
 rcases a0h hm with ⟨o, hm⟩ | ⟨o, hm⟩
 refine a0r 9 Y o (a0x Y (a0a (a0q ag37 sz37 Y Y g Y (i := 3) Y Y (a0q ag37 sz37 Y Y g Y (i := 2) Y Y ?_))))
 obtain ⟨v1, h8, hm⟩ := Yb hm
 refine a0i ent79 Y Y Y Y g (b9e _ _ _ _ h8 g.sat j k l m) ?_
 rintro _ il _ im io h9 ⟨ha, hb, hc, hd, he, hf, rfl, rfl, hg, hh⟩
 refine a0d Y Y Y (a0l Y Y Y Y (a0l Y Y Y Y (a0o sz37 Y h9 Y Y Y Y (i := 0) Y Y Y Y ?_)))
 intro ip g6
 refine a0e (a1o (a0c (a0g (a0a (a0q ag37 sz37 Y Y g6 Y (i := 0) Y Y (a0o sz37 Y g6 Y Y Y Y (i := 1) Y Y Y Y ?_))))))
 intro iq g7
 refine a0e (a0c (a1c (a3h Y ag37 sz37 Y g7 Y (i := 1) Y ?_)))
 obtain rfl := Yo hm
 exact ⟨_, _, _, Y, g7.Yp [] Y Y, ha, hb, hc, hd, he, hf, Y, Y, hg, hh⟩
 refine a0r 9 Y o (a0p Y (a0g (a0a (a0u Y Y Y Y Y (a0b Y Y Y (a0e (a0c ?_)))))))
 rcases a0h hm with ⟨p, hm⟩ | ⟨p, hm⟩
 refine a0r 17 Y p (a0x Y (a0a (a0q ag37 sz37 Y Y g Y (i := 3) Y Y (a0q ag37 sz37 Y Y g Y (i := 2) Y Y ?_))))
 obtain ⟨v2, hi, hm⟩ := Yb hm
 refine a0i ent80 Y Y Y Y g (c4z _ _ _ _ hi g.sat j k l m) ?_
 rintro _ ir _ it iu hj ⟨hk, hl, hn, ho, hp, hq, rfl, rfl, hr, ht⟩
 refine a0d Y Y Y (a0l Y Y Y Y (a0l Y Y Y Y (a0o sz37 Y hj Y Y Y Y (i := 0) Y Y Y Y ?_)))
 intro iv g8
 refine a0e (a1o (a0c (a0g (a0a (a0q ag37 sz37 Y Y g8 Y (i := 0) Y Y (a0o sz37 Y g8 Y Y Y Y (i := 1) Y Y Y Y ?_))))))
 intro i2 q
 refine a0e (a0c (a1c (a3h Y ag37 sz37 Y q Y (i := 1) Y ?_)))
 obtain rfl := Yo hm
 exact ⟨_, _, _, Y, q.Yp [] Y Y, hk, hl, hn, ho, hp, hq, Y, Y, hr, ht⟩
 refine a0r 17 Y p (a0p Y (a0g (a0a (a0u Y Y Y Y Y (a0b Y Y Y (a0e (a0c ?_)))))))
 rcases a0h hm with ⟨s, hm⟩ | ⟨s, hm⟩
 refine a0r 25 Y s (a0x Y (a0a (a0q ag37 sz37 Y Y g Y (i := 3) Y Y (a0q ag37 sz37 Y Y g Y (i := 2) Y Y ?_))))
 obtain ⟨v3, hu, hm⟩ := Yb hm
 refine a0i ent81 Y Y Y Y g (c5r _ _ _ _ hu g.sat j k l m) ?_
 rintro _ iw _ i3 ix g9 ⟨hv, hw, hx, ga, gb, gc, rfl, rfl, hy, gd⟩
 refine a0d Y Y Y (a0l Y Y Y Y (a0l Y Y Y Y (a0o sz37 Y g9 Y Y Y Y (i := 0) Y Y Y Y ?_)))
 intro i4 t
 refine a0e (a1o (a0c (a0g (a0a (a0q ag37 sz37 Y Y t Y (i := 0) Y Y (a0o sz37 Y t Y Y Y Y (i := 1) Y Y Y Y ?_))))))
 intro i5 u
 refine a0e (a0c (a1c (a3h Y ag37 sz37 Y u Y (i := 1) Y ?_)))
 obtain rfl := Yo hm
 exact ⟨_, _, _, Y, u.Yp [] Y Y, hv, hw, hx, ga, gb, gc, Y, Y, hy, gd⟩
 refine a0r 25 Y s (a0p Y (a0g (a0a (a0u Y Y Y Y Y (a0b Y Y Y (a0e (a0c ?_)))))))
 rcases a0h hm with ⟨x, hm⟩ | ⟨x, hm⟩
 refine a0r 33 Y x (a0x Y (a0a (a0q ag37 sz37 Y Y g Y (i := 3) Y Y (a0q ag37 sz37 Y Y g Y (i := 2) Y Y ?_))))
 obtain ⟨v4, hz, hm⟩ := Yb hm
 refine a0i ent82 Y Y Y Y g (c5w _ _ _ _ hz g.sat j k l m) ?_
 rintro _ iy _ i6 iz ge ⟨gf, gg, gh, gi, gj, gk, rfl, rfl, gl, gm⟩
 refine a0d Y Y Y (a0l Y Y Y Y (a0l Y Y Y Y (a0o sz37 Y ge Y Y Y Y (i := 0) Y Y Y Y ?_)))
 intro i7 y
 refine a0e (a1o (a0c (a0g (a0a (a0q ag37 sz37 Y Y y Y (i := 0) Y Y (a0o sz37 Y y Y Y Y Y (i := 1) Y Y Y Y ?_))))))
 intro i8 z
 refine a0e (a0c (a1c (a3h Y ag37 sz37 Y z Y (i := 1) Y ?_)))
 obtain rfl := Yo hm
 exact ⟨_, _, _, Y, z.Yp [] Y Y, gf, gg, gh, gi, gj, gk, Y, Y, gl, gm⟩
 refine a0r 33 Y x (a0p Y (a0g (a0a (a0u Y Y Y Y Y (a0b Y Y Y (a0e (a0c ?_)))))))
 rcases a0h hm with ⟨G, hm⟩ | ⟨G, hm⟩
 refine a0r 41 Y G (a0x Y (a0a (a0q ag37 sz37 Y Y g Y (i := 3) Y Y (a0q ag37 sz37 Y Y g Y (i := 2) Y Y ?_))))
 obtain ⟨v5, i0, hm⟩ := Yb hm
 refine a0i ent83 Y Y Y Y g (c5j _ _ _ _ i0 g.sat j k l m) ?_
 rintro _ j0 _ i9 j1 gn ⟨go, gp, gq, gr, gs, gt, rfl, rfl, gu, gv⟩
 refine a0d Y Y Y (a0l Y Y Y Y (a0l Y Y Y Y (a0o sz37 Y gn Y Y Y Y (i := 0) Y Y Y Y ?_)))
 intro ia H
 refine a0e (a1o (a0c (a0g (a0a (a0q ag37 sz37 Y Y H Y (i := 0) Y Y (a0o sz37 Y H Y Y Y Y (i := 1) Y Y Y Y ?_))))))
 intro ib I
 refine a0e (a0c (a1c (a3h Y ag37 sz37 Y I Y (i := 1) Y ?_)))
 obtain rfl := Yo hm
 exact ⟨_, _, _, Y, I.Yp [] Y Y, go, gp, gq, gr, gs, gt, Y, Y, gu, gv⟩
 refine a0r 41 Y G (a0p Y (a0g (a0a (a0u Y Y Y Y Y (a0b Y Y Y (a0e (a0c ?_)))))))
 rcases a0h hm with ⟨J, hm⟩ | ⟨J, hm⟩
 refine a0r 49 Y J (a0x Y (a0a (a0q ag37 sz37 Y Y g Y (i := 3) Y Y (a0q ag37 sz37 Y Y g Y (i := 2) Y Y ?_))))
 obtain ⟨v6, i1, hm⟩ := Yb hm
 refine a0i ent84 Y Y Y Y g (c4u _ _ _ _ i1 g.sat j k l m) ?_
 rintro _ j2 _ ic j3 gw ⟨gx, gy, gz, h0, h1, h2, rfl, rfl, h3, h4⟩
 refine a0d Y Y Y (a0l Y Y Y Y (a0l Y Y Y Y (a0o sz37 Y gw Y Y Y Y (i := 0) Y Y Y Y ?_)))
 intro id K
 refine a0e (a1o (a0c (a0g (a0a (a0q ag37 sz37 Y Y K Y (i := 0) Y Y (a0o sz37 Y K Y Y Y Y (i := 1) Y Y Y Y ?_))))))
 intro ie L
 refine a0e (a0c (a1c (a3h Y ag37 sz37 Y L Y (i := 1) Y ?_)))
 obtain rfl := Yo hm
 exact ⟨_, _, _, Y, L.Yp [] Y Y, gx, gy, gz, h0, h1, h2, Y, Y, h3, h4⟩
 refine a0r 49 Y J (a0p Y (a1b (a1o (a0c (a0g (a0a (a0q ag37 sz37 Y Y g Y (i := 0) Y Y (a0o sz37 Y g Y Y Y Y (i := 1) Y Y Y Y ?_))))))))
 intro ig M
 refine a0e (a0c (a1c (a3h Y ag37 sz37 Y M Y (i := 1) Y ?_)))
 obtain rfl := Yo hm
 exact ⟨_, _, _, Y, M.Yp [] Y Y, none, 0, 0, none, 0, 0, Y, Y, SlR.nil _ _, SlR.nil _ _⟩
structure known where
 names : (List Bs)
 facts : Facts
 weights : (List Frac)
 deriving DecidableEq, Inhabited
theorem fa59_0 : a4v Tryz.prog 59 0 0 := fun _ _ _ => by kernel_rfl
theorem ag27 : a9h Tryz.prog 27 false := fun _ => by kernel_rfl
theorem ent36 : Ent Tryz.prog 36 := fun _ _ => by kernel_rfl
theorem fa59_1 : a4v Tryz.prog 59 1 1 := fun _ _ _ => by kernel_rfl
theorem fa59_2 : a4v Tryz.prog 59 2 4 := fun _ _ _ => by kernel_rfl
theorem ag31 : a9h Tryz.prog 31 false := fun _ => by kernel_rfl
theorem ag59 : a9h Tryz.prog 59 true := fun _ => by kernel_rfl
theorem sz59 : a4i Tryz.prog 59 5 := fun _ => by kernel_rfl
theorem ent52 : Ent Tryz.prog 52 := fun _ _ => by kernel_rfl
theorem ent23 : Ent Tryz.prog 23 := fun _ _ => by kernel_rfl
theorem ent53 : Ent Tryz.prog 53 := fun _ _ => by kernel_rfl
mutual
def fee_known_number : Nat → known → Expr → Option Frac
 | 0, _, _ => none
 | n + 1, k1, x1 =>
  (a2e n k1.names x1.Name).bind fun v1 =>
  bif x1.Op == 0 then
   (a6x n x1.N).bind fun v2 =>
   some v2
  else
   bif x1.Op == 1 then
    (ix k1.facts.Lifts v1).bind fun ex1 =>
    (a6x n ex1).bind fun v3 =>
    some v3
   else
    bif x1.Op == 2 then
     (a6x n k1.facts.Persons).bind fun v4 =>
     some v4
    else
     bif x1.Op == 3 then
      (a6x n k1.facts.Flats).bind fun v5 =>
      some v5
     else
      bif x1.Op == 4 then
       (ix k1.weights v1).bind fun ex2 =>
       some ex2
      else
       bif x1.Op == 11 then
        (ix x1.Args 0).bind fun ex3 =>
        (fee_known_truth n k1 ex3).bind fun v6 =>
        bif v6 then
         (ix x1.Args 1).bind fun ex4 =>
         (fee_known_number n k1 ex4).bind fun v7 =>
         some v7
        else
         (ix x1.Args 2).bind fun ex5 =>
         (fee_known_number n k1 ex5).bind fun v8 =>
         some v8
       else
        (ix x1.Args 0).bind fun ex6 =>
        (ix x1.Args 1).bind fun ex7 =>
        (fee_known_number n k1 ex6).bind fun v9 =>
        (fee_known_number n k1 ex7).bind fun v10 =>
        (a8g n x1.Op v9 v10).bind fun v11 =>
        some v11
def fee_known_truth : Nat → known → Expr → Option Bool
 | 0, _, _ => none
 | n + 1, k1, x1 =>
  bif x1.Op == 14 then
   (ix x1.Args 0).bind fun ex1 =>
   (fee_known_truth n k1 ex1).bind fun v1 =>
   some (!v1)
  else
   bif x1.Op == 15 then
    (ix x1.Args 0).bind fun ex2 =>
    (fee_known_truth n k1 ex2).bind fun v2 =>
    (bif v2 then
     (ix x1.Args 1).bind fun ex3 =>
     (fee_known_truth n k1 ex3).bind fun v4 =>
     some v4
    else
     some false).bind fun v3 =>
    some v3
   else
    bif x1.Op == 16 then
     (ix x1.Args 0).bind fun ex4 =>
     (fee_known_truth n k1 ex4).bind fun v5 =>
     (bif v5 then
      some true
     else
      (ix x1.Args 1).bind fun ex5 =>
      (fee_known_truth n k1 ex5).bind fun v7 =>
      some v7).bind fun v6 =>
     some v6
    else
     (ix x1.Args 0).bind fun ex6 =>
     (ix x1.Args 1).bind fun ex7 =>
     (fee_known_number n k1 ex6).bind fun v8 =>
     (fee_known_number n k1 ex7).bind fun v9 =>
     (a6l n v8 v9).bind fun v10 =>
     bif x1.Op == 12 then
      some (decide (v10 < 0))
     else
      some (v10 == 0)
 end
theorem a3l (n : Nat) (k1 : known) (x1 : Expr) : fee_known_number (n + 1) k1 x1 =
  (a2e n k1.names x1.Name).bind fun v1 =>
  bif x1.Op == 0 then
   (a6x n x1.N).bind fun v2 =>
   some v2
  else
   bif x1.Op == 1 then
    (ix k1.facts.Lifts v1).bind fun ex1 =>
    (a6x n ex1).bind fun v3 =>
    some v3
   else
    bif x1.Op == 2 then
     (a6x n k1.facts.Persons).bind fun v4 =>
     some v4
    else
     bif x1.Op == 3 then
      (a6x n k1.facts.Flats).bind fun v5 =>
      some v5
     else
      bif x1.Op == 4 then
       (ix k1.weights v1).bind fun ex2 =>
       some ex2
      else
       bif x1.Op == 11 then
        (ix x1.Args 0).bind fun ex3 =>
        (fee_known_truth n k1 ex3).bind fun v6 =>
        bif v6 then
         (ix x1.Args 1).bind fun ex4 =>
         (fee_known_number n k1 ex4).bind fun v7 =>
         some v7
        else
         (ix x1.Args 2).bind fun ex5 =>
         (fee_known_number n k1 ex5).bind fun v8 =>
         some v8
       else
        (ix x1.Args 0).bind fun ex6 =>
        (ix x1.Args 1).bind fun ex7 =>
        (fee_known_number n k1 ex6).bind fun v9 =>
        (fee_known_number n k1 ex7).bind fun v10 =>
        (a8g n x1.Op v9 v10).bind fun v11 =>
        some v11 := rfl
theorem a6d (n : Nat) (k1 : known) (x1 : Expr) : fee_known_truth (n + 1) k1 x1 =
  bif x1.Op == 14 then
   (ix x1.Args 0).bind fun ex1 =>
   (fee_known_truth n k1 ex1).bind fun v1 =>
   some (!v1)
  else
   bif x1.Op == 15 then
    (ix x1.Args 0).bind fun ex2 =>
    (fee_known_truth n k1 ex2).bind fun v2 =>
    (bif v2 then
     (ix x1.Args 1).bind fun ex3 =>
     (fee_known_truth n k1 ex3).bind fun v4 =>
     some v4
    else
     some false).bind fun v3 =>
    some v3
   else
    bif x1.Op == 16 then
     (ix x1.Args 0).bind fun ex4 =>
     (fee_known_truth n k1 ex4).bind fun v5 =>
     (bif v5 then
      some true
     else
      (ix x1.Args 1).bind fun ex5 =>
      (fee_known_truth n k1 ex5).bind fun v7 =>
      some v7).bind fun v6 =>
     some v6
    else
     (ix x1.Args 0).bind fun ex6 =>
     (ix x1.Args 1).bind fun ex7 =>
     (fee_known_number n k1 ex6).bind fun v8 =>
     (fee_known_number n k1 ex7).bind fun v9 =>
     (a6l n v8 v9).bind fun v10 =>
     bif x1.Op == 12 then
      some (decide (v10 < 0))
     else
      some (v10 == 0) := rfl
theorem b5b (n : Nat) : (∀ (k1 : known) (x1 : Expr) (r : Frac) (_ : fee_known_number n k1 x1 = some r) {w : World} {F : Frz} (_ : Sat F w) {G : Option Addr} {H : Nat} {k : Nat} {I : Option Addr} {J : Nat} {s : Nat} {K : Option Addr} {L : Nat} {t : Nat} {M : Option Addr} {R : Nat} {u : Nat} (_ : SlR Rp.str F G H k k1.names) (_ : SlR (Rp.int .i64) F I J s k1.facts.Lifts) (_ : SlR rp_Frac F K L t k1.weights) (_ : SlR rp_Expr F M R u x1.Args), Calls Tryz.prog 23 #[.agg #[.slice G H k, .slice I J s, .int .i64 k1.facts.Persons, .int .i64 k1.facts.Flats, .slice K L t], .agg #[.int .i64 x1.Op, .int .i64 x1.N, vs x1.Name, .slice M R u]] w fun e w' => ∃ v F' O', e = .returned v ∧ HS F w [] F' O' w' ∧ (∃ (a0_1 : Option Addr) (n0_1 : Nat) (c0_1 : Nat) (a0_3 : Option Addr) (n0_3 : Nat) (c0_3 : Nat), v = .agg #[.int .i64 r.P.Sign, .slice a0_1 n0_1 c0_1, .int .i64 r.Q.Sign, .slice a0_3 n0_3 c0_3] ∧ O' = [] ∧ SlR (Rp.int .i64) F' a0_1 n0_1 c0_1 r.P.Digits ∧ SlR (Rp.int .i64) F' a0_3 n0_3 c0_3 r.Q.Digits)) ∧
  (∀ (k1 : known) (x1 : Expr) (r : Bool) (_ : fee_known_truth n k1 x1 = some r) {w : World} {F : Frz} (_ : Sat F w) {G : Option Addr} {H : Nat} {k : Nat} {I : Option Addr} {J : Nat} {s : Nat} {K : Option Addr} {L : Nat} {t : Nat} {M : Option Addr} {R : Nat} {u : Nat} (_ : SlR Rp.str F G H k k1.names) (_ : SlR (Rp.int .i64) F I J s k1.facts.Lifts) (_ : SlR rp_Frac F K L t k1.weights) (_ : SlR rp_Expr F M R u x1.Args), Calls Tryz.prog 52 #[.agg #[.slice G H k, .slice I J s, .int .i64 k1.facts.Persons, .int .i64 k1.facts.Flats, .slice K L t], .agg #[.int .i64 x1.Op, .int .i64 x1.N, vs x1.Name, .slice M R u]] w fun e w' => ∃ v F' O', e = .returned v ∧ HS F w [] F' O' w' ∧ (v = .bool r ∧ O' = [])) := by
 induction n with
 | zero =>
  refine ⟨?_, ?_⟩
  intro k1 x1 r hm
  exact absurd (show (none : Option Frac) = some r from hm) (by simp)
  intro k1 x1 r hm
  exact absurd (show (none : Option Bool) = some r from hm) (by simp)
 | succ n ih =>
  refine ⟨?_, ?_⟩
  intro k1 x1 r hm w F hs G H k I J s K L t M R u m o p x
  rw [a3l] at hm
  have h := HS.init hs
  refine a1a 81 Tryz.func23 Y Y Y (a0g (a0a (a2z Y Y Y Y h ?_)))
  intro b1 km gx
  refine a2z Y Y Y Y gx ?_
  intro b2 kn Z
  refine a1h ze37 Y Y Y Z ?_
  intro b3 ko g
  refine a0e (a0c (a0g (a0a (a0f fa59_0 Y Y Y (a0n ag27 Y Y g Y (i := 2) Y Y (a0f fa24_2 Y Y Y (a0n ag9 Y Y g Y (i := 1) Y Y ?_)))))))
  obtain ⟨v1, gy, hm⟩ := Yb hm
  refine a2t ent51 Y Y Y Y (a7d _ _ _ _ gy g.sat m) (a0b Y Y Y (a0e (a0c (a0g (a0g (a0a (a0f fa24_0 Y Y Y (a0n ag3 Y Y g Y (i := 1) Y Y (a0e (a0c (a1j (a0g (a0a (a0u Y Y Y Y Y (a0b Y Y Y (a0e (a0c ?_)))))))))))))))))
  rcases a0h hm with ⟨g0, hm⟩ | ⟨g0, hm⟩
  refine a0r 13 Y g0 (a0x Y (a0g (a0a (a0f fa24_1 Y Y Y (a0n ag3 Y Y g Y (i := 1) Y Y ?_)))))
  obtain ⟨v2, gz, hm⟩ := Yb hm
  refine a0i ent36 Y Y Y Y g (a8t _ _ _ gz g.sat) ?_
  rintro _ kp _ m4 kq h0 ⟨j2, j3, gt, j4, j5, gu, rfl, rfl, h1, h2⟩
  refine a0o sz37 Y h0 Y Y Y Y (i := 0) Y Y Y Y ?_
  intro kr gv
  refine a0e (a0c (a1c (a0t (a0j (a3h Y ag37 sz37 Y gv Y (i := 0) Y ?_)))))
  obtain rfl := Yo hm
  exact ⟨_, _, _, Y, gv.Yp [] Y Y, j2, j3, gt, j4, j5, gu, Y, Y, h1, h2⟩
  refine a0r 13 Y g0 (a0p Y (a0g (a0a (a0u Y Y Y Y Y (a0b Y Y Y (a0e (a0c ?_)))))))
  rcases a0h hm with ⟨g1, hm⟩ | ⟨g1, hm⟩
  refine a0r 18 Y g1 (a0x Y (a0g (a0a (a0f fa59_1 Y Y Y (a0f fa30_0 Y Y Y (a0n ag28 Y Y g Y (i := 2) Y Y (a0d Y Y Y ?_)))))))
  obtain ⟨ex1, h3, hm⟩ := Yb hm
  refine a2r (r := (Rp.int .i64)) u28 sz3 Y Y Y Y o h3 ?_
  intro b4 o1 k h4 h5
  have h6 : k = [.int .i64 ex1] := h5
  subst h6
  refine a2j (j := 0) ag3 Y Y g h4 Y Y ?_
  obtain ⟨v3, h7, hm⟩ := Yb hm
  refine a0i ent36 Y Y Y Y g (a8t _ _ _ h7 g.sat) ?_
  rintro _ ks _ m5 kt gb ⟨j6, j7, gw, j8, j9, ja, rfl, rfl, h8, h9⟩
  refine a0o sz37 Y gb Y Y Y Y (i := 0) Y Y Y Y ?_
  intro ku g5
  refine a0e (a0c (a1c (a0t (a0j (a3h Y ag37 sz37 Y g5 Y (i := 0) Y ?_)))))
  obtain rfl := Yo hm
  exact ⟨_, _, _, Y, g5.Yp [] Y Y, j6, j7, gw, j8, j9, ja, Y, Y, h8, h9⟩
  refine a0r 18 Y g1 (a0p Y (a0g (a0a (a0u Y Y Y Y Y (a0b Y Y Y (a0e (a0c ?_)))))))
  rcases a0h hm with ⟨y, hm⟩ | ⟨y, hm⟩
  refine a0r 27 Y y (a0x Y (a0g (a0a (a0f fa59_1 Y Y Y (a0f fa30_1 Y Y Y (a0n ag3 Y Y g Y (i := 2) Y Y ?_))))))
  obtain ⟨v4, hb, hm⟩ := Yb hm
  refine a0i ent36 Y Y Y Y g (a8t _ _ _ hb g.sat) ?_
  rintro _ kv _ kw kx gc ⟨jb, jc, jd, hc, hd, he, rfl, rfl, hf, gf⟩
  refine a0o sz37 Y gc Y Y Y Y (i := 0) Y Y Y Y ?_
  intro ky U
  refine a0e (a0c (a1c (a0t (a0j (a3h Y ag37 sz37 Y U Y (i := 0) Y ?_)))))
  obtain rfl := Yo hm
  exact ⟨_, _, _, Y, U.Yp [] Y Y, jb, jc, jd, hc, hd, he, Y, Y, hf, gf⟩
  refine a0r 27 Y y (a0p Y (a0g (a0a (a0u Y Y Y Y Y (a0b Y Y Y (a0e (a0c ?_)))))))
  rcases a0h hm with ⟨g2, hm⟩ | ⟨g2, hm⟩
  refine a0r 33 Y g2 (a0x Y (a0g (a0a (a0f fa59_1 Y Y Y (a0f fa30_2 Y Y Y (a0n ag3 Y Y g Y (i := 2) Y Y ?_))))))
  obtain ⟨v5, hg, hm⟩ := Yb hm
  refine a0i ent36 Y Y Y Y g (a8t _ _ _ hg g.sat) ?_
  rintro _ kz _ jf T jg ⟨hh, hi, hj, hk, hl, hn, rfl, rfl, gg, gh⟩
  refine a0o sz37 Y jg Y Y Y Y (i := 0) Y Y Y Y ?_
  intro jh ho
  refine a0e (a0c (a1c (a0t (a0j (a3h Y ag37 sz37 Y ho Y (i := 0) Y ?_)))))
  obtain rfl := Yo hm
  exact ⟨_, _, _, Y, ho.Yp [] Y Y, hh, hi, hj, hk, hl, hn, Y, Y, gg, gh⟩
  refine a0r 33 Y g2 (a0p Y (a0g (a0a (a0u Y Y Y Y Y (a0b Y Y Y (a0e (a0c ?_)))))))
  rcases a0h hm with ⟨g3, hm⟩ | ⟨g3, hm⟩
  refine a0r 39 Y g3 (a0x Y (a0g (a0a (a0f fa59_2 Y Y Y (a0n ag31 Y Y g Y (i := 2) Y Y (a0d Y Y Y ?_))))))
  obtain ⟨ex2, hp, hm⟩ := Yb hm
  refine a2r (r := rp_Frac) u31 sz37 Y Y Y Y p hp ?_
  intro b5 o2 s hr ht
  obtain ⟨hu, hv, hw, hx, hy, hz, i0, gi, gj⟩ := ht
  subst i0
  refine a3c ag37 sz37 Y Y g hr Y Y (a0o sz37 Y g Y Y Y Y (i := 0) Y Y Y Y ?_)
  intro l2 i1
  refine a0e (a0c (a1c (a0t (a0j (a3h Y ag37 sz37 Y i1 Y (i := 0) Y ?_)))))
  obtain rfl := Yo hm
  exact ⟨_, _, _, Y, i1.Yp [] Y Y, hu, hv, hw, hx, hy, hz, Y, Y, gi, gj⟩
  refine a0r 39 Y g3 (a0p Y (a0g (a0a (a0u Y Y Y Y Y (a0b Y Y Y (a0e (a0c ?_)))))))
  rcases a0h hm with ⟨z, hm⟩ | ⟨z, hm⟩
  refine a0r 46 Y z (a0x Y (a0g (a0g (a3n (by kernel_rfl) (by kernel_rfl) g (a1e Y Y Y Y (fun _ _ _ hq => a0q ag59 sz59 Y Y hq Y (i := 2) Y Y Yn) (a1e Y Y Y Y (fun _ _ _ _ => a0f fa24_3 Y Y Y Yn) (a1e Y Y Y Y (fun _ _ _ hq => a0n ag22 Y Y hq Y (i := 1) Y Y Yn) ?_)))))))
  obtain ⟨ex3, i2, hm⟩ := Yb hm
  obtain ⟨b6, o3, t, i3, i4, g6⟩ := a2k (P := Tryz.prog) (r := rp_Expr) u22 sz24 x i2
  obtain ⟨ji, jj, jk, i5, gk⟩ := expr_iff.1 i4
  subst i5
  refine a2s Y Y Y Y g6 (a1e Y Y Y Y (fun _ _ hleq hq => a3c ag24 sz24 Y Y hq (i3.mono hleq) Y Y Yn) ?_)
  obtain ⟨v6, i6, hm⟩ := Yb hm
  refine a5s ent52 Y Y Y Y (fun _ _ hleq hq => ih.2 _ _ _ i6 hq.sat (m.mono hleq) (o.mono hleq) (p.mono hleq) (gk.mono hleq)) (b0z ?_)
  rintro l3 ⟨i7, q, i8⟩
  refine a0c ?_
  rcases a0h hm with ⟨g4, hm⟩ | ⟨g4, hm⟩
  refine a0r 53 Y g4 (a0x Y (a0g (a2f (SH i7 [.box b2 24 [.int .i64 x1.Op, .int .i64 x1.N, vs x1.Name, .slice M R u], .box b1 59 [.slice G H k, .slice I J s, .int .i64 k1.facts.Persons, .int .i64 k1.facts.Flats, .slice K L t]]) 7 Y (by kernel_rfl) i8 ?_)))
  intro l4 gl
  have S0 := gl.Ys Yf [1, 2] Y Y
  refine d_tk 0 Y (by kernel_rfl) Y Y Y Y S0 (fun _ _ _ _ hq => a0q ag59 sz59 Y Y hq Y (i := 1) Y Y Yn) (d_tk 1 Y (by kernel_rfl) Y Y Y Y S0 (fun _ _ _ _ _ => a0f fa24_3 Y Y Y Yn) (d_tk 2 Y (by kernel_rfl) Y Y Y Y S0 (fun _ _ _ _ hq => a0n ag22 Y Y hq Y (i := 0) Y Y Yn) ?_))
  obtain ⟨ex4, i9, hm⟩ := Yb hm
  obtain ⟨b7, o4, u, ia, ib, g7⟩ := a2k (P := Tryz.prog) (r := rp_Expr) u22 sz24 (x.mono q) i9
  obtain ⟨l5, l6, l7, ic, jl⟩ := expr_iff.1 ib
  subst ic
  refine b1u 3 Y (by kernel_rfl) (by kernel_rfl) (by kernel_rfl) Y Y Y Y g7 S0 (d_tk 4 Y (by kernel_rfl) Y Y Y Y S0 (fun _ _ _ hleq hq => a3c ag24 sz24 Y Y hq (ia.mono hleq) Y Y Yn) (a0z 5 Y (by kernel_rfl) ?_))
  obtain ⟨v7, id, hm⟩ := Yb hm
  refine a0i ent23 Y Y Y Y gl (ih.1 _ _ _ id gl.sat (m.mono q) (o.mono q) (p.mono q) jl) ?_
  rintro _ l0 _ l8 gd ie ⟨jm, jn, jo, jp, jq, jr, rfl, rfl, js, jt⟩
  refine a0v (ie.Ys gd [1, 2] Y Y) (a0z 6 Y (by kernel_rfl) (a0o sz37 Y ie Y Y Y Y (i := 0) Y Y Y Y ?_))
  intro l9 gm
  refine a0v (gm.Ys gd [1, 2] Y Y) (a2u (by kernel_rfl) (a0c (a1c (a0j (a0t (a0j (a3h Y ag37 sz37 Y gm Y (i := 0) Y ?_)))))))
  obtain rfl := Yo hm
  exact ⟨_, _, _, Y, gm.Yp [] Y Y, jm, jn, jo, jp, jq, jr, Y, Y, js, jt⟩
  refine a0r 53 Y g4 (a0p Y (a1b (a0c (a0g (a2f (SH i7 [.box b2 24 [.int .i64 x1.Op, .int .i64 x1.N, vs x1.Name, .slice M R u], .box b1 59 [.slice G H k, .slice I J s, .int .i64 k1.facts.Persons, .int .i64 k1.facts.Flats, .slice K L t]]) 7 Y (by kernel_rfl) i8 ?_)))))
  intro la gn
  have S1 := gn.Ys Yf [1, 2] Y Y
  refine d_tk 0 Y (by kernel_rfl) Y Y Y Y S1 (fun _ _ _ _ hq => a0q ag59 sz59 Y Y hq Y (i := 1) Y Y Yn) (d_tk 1 Y (by kernel_rfl) Y Y Y Y S1 (fun _ _ _ _ _ => a0f fa24_3 Y Y Y Yn) (d_tk 2 Y (by kernel_rfl) Y Y Y Y S1 (fun _ _ _ _ hq => a0n ag22 Y Y hq Y (i := 0) Y Y Yn) ?_))
  obtain ⟨ex5, ig, hm⟩ := Yb hm
  obtain ⟨b8, o5, gt, ii, ij, g8⟩ := a2k (P := Tryz.prog) (r := rp_Expr) u22 sz24 (x.mono q) ig
  obtain ⟨lb, lc, ld, ik, ju⟩ := expr_iff.1 ij
  subst ik
  refine b1u 3 Y (by kernel_rfl) (by kernel_rfl) (by kernel_rfl) Y Y Y Y g8 S1 (d_tk 4 Y (by kernel_rfl) Y Y Y Y S1 (fun _ _ _ hleq hq => a3c ag24 sz24 Y Y hq (ii.mono hleq) Y Y Yn) (a0z 5 Y (by kernel_rfl) ?_))
  obtain ⟨v8, il, hm⟩ := Yb hm
  refine a0i ent23 Y Y Y Y gn (ih.1 _ _ _ il gn.sat (m.mono q) (o.mono q) (p.mono q) ju) ?_
  rintro _ m6 _ le je im ⟨jv, jw, jx, jy, jz, k0, rfl, rfl, k2, k3⟩
  refine a0v (im.Ys je [1, 2] Y Y) (a0z 6 Y (by kernel_rfl) (a0o sz37 Y im Y Y Y Y (i := 0) Y Y Y Y ?_))
  intro lf go
  refine a0v (go.Ys je [1, 2] Y Y) (a2u (by kernel_rfl) (a0c (a1c (a0t (a0j (a3h Y ag37 sz37 Y go Y (i := 0) Y ?_))))))
  obtain rfl := Yo hm
  exact ⟨_, _, _, Y, go.Yp [] Y Y, jv, jw, jx, jy, jz, k0, Y, Y, k2, k3⟩
  refine a0r 46 Y z (a0p Y (a1b (a1o (a0c (a0g (a2f (SH F [.box b2 24 [.int .i64 x1.Op, .int .i64 x1.N, vs x1.Name, .slice M R u], .box b1 59 [.slice G H k, .slice I J s, .int .i64 k1.facts.Persons, .int .i64 k1.facts.Flats, .slice K L t]]) 16 Y (by kernel_rfl) g ?_))))))
  intro lg gp
  have S2 := gp.Ys Yf [1, 2] Y Y
  refine d_tk 0 Y (by kernel_rfl) Y Y Y Y S2 (fun _ _ _ _ _ => a0f fa24_0 Y Y Y Yn) (d_tk 1 Y (by kernel_rfl) Y Y Y Y S2 (fun _ _ _ _ hq => a0n ag3 Y Y hq Y (i := 0) Y Y Yn) (d_tk 2 Y (by kernel_rfl) Y Y Y Y S2 (fun _ _ _ _ hq => a0q ag59 sz59 Y Y hq Y (i := 1) Y Y Yn) (d_tk 3 Y (by kernel_rfl) Y Y Y Y S2 (fun _ _ _ _ _ => a0f fa24_3 Y Y Y Yn) (d_tk 4 Y (by kernel_rfl) Y Y Y Y S2 (fun _ _ _ _ hq => a0n ag22 Y Y hq Y (i := 0) Y Y Yn) ?_))))
  obtain ⟨ex6, io, hm⟩ := Yb hm
  obtain ⟨b9, o6, gu, ip, iq, g9⟩ := a2k (P := Tryz.prog) (r := rp_Expr) u22 sz24 x io
  obtain ⟨lh, li, lj, ir, k4⟩ := expr_iff.1 iq
  subst ir
  refine b1u 5 Y (by kernel_rfl) (by kernel_rfl) (by kernel_rfl) Y Y Y Y g9 S2 (d_tk 6 Y (by kernel_rfl) Y Y Y Y S2 (fun _ _ _ hleq hq => a3c ag24 sz24 Y Y hq (ip.mono hleq) Y Y Yn) (d_tk 8 Y (by kernel_rfl) Y Y Y Y S2 (fun _ _ _ _ hq => a0q ag59 sz59 Y Y hq Y (i := 1) Y Y Yn) (d_tk 9 Y (by kernel_rfl) Y Y Y Y S2 (fun _ _ _ _ _ => a0f fa24_3 Y Y Y Yn) (d_tk 10 Y (by kernel_rfl) Y Y Y Y S2 (fun _ _ _ _ hq => a0n ag22 Y Y hq Y (i := 0) Y Y Yn) ?_))))
  obtain ⟨ex7, it, hm⟩ := Yb hm
  obtain ⟨b10, o7, gw, iu, iv, ga⟩ := a2k (P := Tryz.prog) (r := rp_Expr) u22 sz24 x it
  obtain ⟨lk, ll, lm, iw, k5⟩ := expr_iff.1 iv
  subst iw
  refine b1u 11 Y (by kernel_rfl) (by kernel_rfl) (by kernel_rfl) Y Y Y Y ga S2 (d_tk 12 Y (by kernel_rfl) Y Y Y Y S2 (fun _ _ _ hleq hq => a3c ag24 sz24 Y Y hq (iu.mono hleq) Y Y Yn) (a0z 7 Y (by kernel_rfl) ?_))
  obtain ⟨v9, l1, hm⟩ := Yb hm
  refine a0i ent23 Y Y Y Y gp (ih.1 _ _ _ l1 gp.sat m o p k4) ?_
  rintro _ m7 _ ln V gq ⟨lo, lp, lq, lr, ls, lt, rfl, rfl, k6, k7⟩
  refine a0v (gq.Ys V [1, 2] Y Y) (a0z 13 Y (by kernel_rfl) ?_)
  obtain ⟨v10, k8, hm⟩ := Yb hm
  refine a0i ent23 Y Y Y Y gq (ih.1 _ _ _ k8 gq.sat (m.mono V) (o.mono V) (p.mono V) (k5.mono V)) ?_
  rintro _ m8 _ lu ge gr ⟨lv, lw, lx, ly, lz, m0, rfl, rfl, k9, ka⟩
  refine a0v (gr.Ys (V.trans ge) [1, 2] Y Y) (a0z 14 Y (by kernel_rfl) ?_)
  obtain ⟨v11, kb, hm⟩ := Yb hm
  refine a0i ent53 Y Y Y Y gr (b7v _ _ _ _ _ kb gr.sat (k6.mono ge) (k7.mono ge) k9 ka) ?_
  rintro _ m1 _ m2 ix iy ⟨kc, kd, ke, kf, kg, kh, rfl, rfl, ki, kj⟩
  refine a0v (iy.Ys ((V.trans ge).trans ix) [1, 2] Y Y) (a0z 15 Y (by kernel_rfl) (a0o sz37 Y iy Y Y Y Y (i := 0) Y Y Y Y ?_))
  intro m3 gs
  refine a0v (gs.Ys ((V.trans ge).trans ix) [1, 2] Y Y) (a2u (by kernel_rfl) (a0c (a1c (a3h Y ag37 sz37 Y gs Y (i := 0) Y ?_))))
  obtain rfl := Yo hm
  exact ⟨_, _, _, Y, gs.Yp [] Y Y, kc, kd, ke, kf, kg, kh, Y, Y, ki, kj⟩
  intro k1 x1 r hm w F hs G H k I J s K L t M R u m o p x
  rw [a6d] at hm
  have h := HS.init hs
  refine a1a 69 Tryz.func52 Y Y Y (a0g (a0a (a2z Y Y Y Y h ?_)))
  intro b1 km gx
  refine a2z Y Y Y Y gx ?_
  intro b2 kn Z
  refine a0b Y Y Y (a0e (a0c (a0g (a0g (a0a (a0f fa24_0 Y Y Y (a0n ag3 Y Y Z Y (i := 0) Y Y (a0e (a0c (a1j (a0g (a0a (a0u Y Y Y Y Y (a0b Y Y Y (a0e (a0c ?_))))))))))))))))
  rcases a0h hm with ⟨g0, hm⟩ | ⟨g0, hm⟩
  refine a0r 8 Y g0 (a0x Y (a0g (a3n (by kernel_rfl) (by kernel_rfl) Z (a1e Y Y Y Y (fun _ _ _ hq => a0q ag59 sz59 Y Y hq Y (i := 1) Y Y Yn) (a1e Y Y Y Y (fun _ _ _ _ => a0f fa24_3 Y Y Y Yn) (a1e Y Y Y Y (fun _ _ _ hq => a0n ag22 Y Y hq Y (i := 0) Y Y Yn) ?_))))))
  obtain ⟨ex1, h3, hm⟩ := Yb hm
  obtain ⟨b3, o1, k, h4, h5, g6⟩ := a2k (P := Tryz.prog) (r := rp_Expr) u22 sz24 x h3
  obtain ⟨j2, j3, gt, h6, h1⟩ := expr_iff.1 h5
  subst h6
  refine a2s Y Y Y Y g6 (a1e Y Y Y Y (fun _ _ hleq hq => a3c ag24 sz24 Y Y hq (h4.mono hleq) Y Y Yn) ?_)
  obtain ⟨v1, gy, hm⟩ := Yb hm
  refine a5s ent52 Y Y Y Y (fun _ _ hleq hq => ih.2 _ _ _ gy hq.sat (m.mono hleq) (o.mono hleq) (p.mono hleq) (h1.mono hleq)) (a1e Y Y Y Y (fun _ _ _ _ => a4c Y Y Y Yn) (a1e Y Y Y Y (fun _ _ _ _ => a0b Y Y Y Yn) (b0z ?_)))
  rintro ko ⟨kp, kq, g⟩
  refine a0c (a1c (a0t (a0j (a1n Y Y ?_))))
  obtain rfl := Yo hm
  exact ⟨_, _, _, Y, g.Yp [] Y Y, Y, Y⟩
  refine a0r 8 Y g0 (a0p Y (a0g (a0a (a0u Y Y Y Y Y (a0b Y Y Y (a0e (a0c ?_)))))))
  rcases a0h hm with ⟨g1, hm⟩ | ⟨g1, hm⟩
  refine a0r 17 Y g1 (a0x Y (a0g (a3n (by kernel_rfl) (by kernel_rfl) Z (a1e Y Y Y Y (fun _ _ _ hq => a0q ag59 sz59 Y Y hq Y (i := 1) Y Y Yn) (a1e Y Y Y Y (fun _ _ _ _ => a0f fa24_3 Y Y Y Yn) (a1e Y Y Y Y (fun _ _ _ hq => a0n ag22 Y Y hq Y (i := 0) Y Y Yn) ?_))))))
  obtain ⟨ex2, hp, hm⟩ := Yb hm
  obtain ⟨b4, o2, s, hr, ht, g7⟩ := a2k (P := Tryz.prog) (r := rp_Expr) u22 sz24 x hp
  obtain ⟨j4, j5, gu, i0, h2⟩ := expr_iff.1 ht
  subst i0
  refine a2s Y Y Y Y g7 (a1e Y Y Y Y (fun _ _ hleq hq => a3c ag24 sz24 Y Y hq (hr.mono hleq) Y Y Yn) ?_)
  obtain ⟨v2, gz, hm⟩ := Yb hm
  refine a5s ent52 Y Y Y Y (fun _ _ hleq hq => ih.2 _ _ _ gz hq.sat (m.mono hleq) (o.mono hleq) (p.mono hleq) (h2.mono hleq)) (a1e Y Y Y Y (fun _ _ _ _ => a0d Y Y Y Yn) ?_)
  obtain ⟨v3, y, hm⟩ := Yb hm
  refine c4x 7 (fun a => Has 69 a [(32, .bool v3)]) ?_ ?_
  intro a kk
  refine b3m kk (a1e Y Y Y Y (fun _ _ _ _ => a0b Y Y Y Yn) (b0z ?_))
  rintro kr ⟨ks, kt, h0⟩
  refine a0c (a1c (a0t (a0j (a1n Y Y ?_))))
  obtain rfl := Yo hm
  exact ⟨_, _, _, Y, h0.Yp [] Y Y, Y, Y⟩
  clear hm
  rcases a0h y with ⟨g2, y⟩ | ⟨g2, y⟩
  refine b6i 25 Y g2 (a1e Y Y Y Y (fun _ _ _ hq => a0q ag59 sz59 Y Y hq Y (i := 1) Y Y Yn) (a1e Y Y Y Y (fun _ _ _ _ => a0f fa24_3 Y Y Y Yn) (a1e Y Y Y Y (fun _ _ _ hq => a0n ag22 Y Y hq Y (i := 0) Y Y Yn) ?_)))
  obtain ⟨ex3, i2, y⟩ := Yb y
  obtain ⟨b5, o3, t, i3, i4, g8⟩ := a2k (P := Tryz.prog) (r := rp_Expr) u22 sz24 x i2
  obtain ⟨j6, j7, gw, i5, h8⟩ := expr_iff.1 i4
  subst i5
  refine a2s Y Y Y Y g8 (a1e Y Y Y Y (fun _ _ hleq hq => a3c ag24 sz24 Y Y hq (i3.mono hleq) Y Y Yn) ?_)
  obtain ⟨v4, h7, y⟩ := Yb y
  refine a5s ent52 Y Y Y Y (fun _ _ hleq hq => ih.2 _ _ _ h7 hq.sat (m.mono hleq) (o.mono hleq) (p.mono hleq) (h8.mono hleq)) (a1e Y Y Y Y (fun _ _ _ _ => a0s Y Y Y Y Yn) (b6a (fun a ha => ?_)))
  cases y
  exact ha.cut (l := [32]) Y
  refine b6i 25 Y g2 (a3q Y Y Y (a3q Y Y Y (a3q Y Y Y (a3q Y Y Y (a3q Y Y Y (a3q Y Y Y (a1e Y Y Y Y (fun _ _ _ _ => a0m Y Y Y Y Yn) (b6a (fun a ha => ?_)))))))))
  cases y
  exact ha.cut (l := [32]) Y
  refine a0r 17 Y g1 (a0p Y (a0g (a0a (a0u Y Y Y Y Y (a0b Y Y Y (a0e (a0c ?_)))))))
  rcases a0h hm with ⟨g3, hm⟩ | ⟨g3, hm⟩
  refine a0r 33 Y g3 (a0x Y (a0g (a3n (by kernel_rfl) (by kernel_rfl) Z (a1e Y Y Y Y (fun _ _ _ hq => a0q ag59 sz59 Y Y hq Y (i := 1) Y Y Yn) (a1e Y Y Y Y (fun _ _ _ _ => a0f fa24_3 Y Y Y Yn) (a1e Y Y Y Y (fun _ _ _ hq => a0n ag22 Y Y hq Y (i := 0) Y Y Yn) ?_))))))
  obtain ⟨ex4, i9, hm⟩ := Yb hm
  obtain ⟨b6, o4, u, ia, ib, g9⟩ := a2k (P := Tryz.prog) (r := rp_Expr) u22 sz24 x i9
  obtain ⟨j8, j9, ja, ic, h9⟩ := expr_iff.1 ib
  subst ic
  refine a2s Y Y Y Y g9 (a1e Y Y Y Y (fun _ _ hleq hq => a3c ag24 sz24 Y Y hq (ia.mono hleq) Y Y Yn) ?_)
  obtain ⟨v5, hb, hm⟩ := Yb hm
  refine a5s ent52 Y Y Y Y (fun _ _ hleq hq => ih.2 _ _ _ hb hq.sat (m.mono hleq) (o.mono hleq) (p.mono hleq) (h9.mono hleq)) (a1e Y Y Y Y (fun _ _ _ _ => a0d Y Y Y Yn) ?_)
  obtain ⟨v6, z, hm⟩ := Yb hm
  refine c4x 7 (fun a => Has 69 a [(48, .bool v6)]) ?_ ?_
  intro a kl
  refine b3m kl (a1e Y Y Y Y (fun _ _ _ _ => a0b Y Y Y Yn) (b0z ?_))
  rintro ku ⟨kv, kx, gv⟩
  refine a0c (a1c (a0t (a0j (a1n Y Y ?_))))
  obtain rfl := Yo hm
  exact ⟨_, _, _, Y, gv.Yp [] Y Y, Y, Y⟩
  clear hm
  rcases a0h z with ⟨g4, z⟩ | ⟨g4, z⟩
  refine b6i 41 Y g4 (a3q Y Y Y (a3q Y Y Y (a3q Y Y Y (a3q Y Y Y (a3q Y Y Y (a3q Y Y Y (a1e Y Y Y Y (fun _ _ _ _ => a0s Y Y Y Y Yn) (b6a (fun a ha => ?_)))))))))
  cases z
  exact ha.cut (l := [48]) Y
  refine b6i 41 Y g4 (a1e Y Y Y Y (fun _ _ _ hq => a0q ag59 sz59 Y Y hq Y (i := 1) Y Y Yn) (a1e Y Y Y Y (fun _ _ _ _ => a0f fa24_3 Y Y Y Yn) (a1e Y Y Y Y (fun _ _ _ hq => a0n ag22 Y Y hq Y (i := 0) Y Y Yn) ?_)))
  obtain ⟨ex5, ig, z⟩ := Yb z
  obtain ⟨b7, o5, gt, ii, ij, ga⟩ := a2k (P := Tryz.prog) (r := rp_Expr) u22 sz24 x ig
  obtain ⟨jb, jc, jd, ik, hf⟩ := expr_iff.1 ij
  subst ik
  refine a2s Y Y Y Y ga (a1e Y Y Y Y (fun _ _ hleq hq => a3c ag24 sz24 Y Y hq (ii.mono hleq) Y Y Yn) ?_)
  obtain ⟨v7, hg, z⟩ := Yb z
  refine a5s ent52 Y Y Y Y (fun _ _ hleq hq => ih.2 _ _ _ hg hq.sat (m.mono hleq) (o.mono hleq) (p.mono hleq) (hf.mono hleq)) (a1e Y Y Y Y (fun _ _ _ _ => a0m Y Y Y Y Yn) (b6a (fun a ha => ?_)))
  cases z
  exact ha.cut (l := [48]) Y
  refine a0r 33 Y g3 (a0p Y (a1b (a1o (a0c (a0g (a2f (SH F [.box b2 24 [.int .i64 x1.Op, .int .i64 x1.N, vs x1.Name, .slice M R u], .box b1 59 [.slice G H k, .slice I J s, .int .i64 k1.facts.Persons, .int .i64 k1.facts.Flats, .slice K L t]]) 14 Y (by kernel_rfl) Z ?_))))))
  intro kw gb
  have S3 := gb.Ys Yf [0, 1] Y Y
  refine d_tk 0 Y (by kernel_rfl) Y Y Y Y S3 (fun _ _ _ _ hq => a0q ag59 sz59 Y Y hq Y (i := 1) Y Y Yn) (d_tk 1 Y (by kernel_rfl) Y Y Y Y S3 (fun _ _ _ _ _ => a0f fa24_3 Y Y Y Yn) (d_tk 2 Y (by kernel_rfl) Y Y Y Y S3 (fun _ _ _ _ hq => a0n ag22 Y Y hq Y (i := 0) Y Y Yn) ?_))
  obtain ⟨ex6, io, hm⟩ := Yb hm
  obtain ⟨b8, o6, gu, ip, iq, j0⟩ := a2k (P := Tryz.prog) (r := rp_Expr) u22 sz24 x io
  obtain ⟨hc, hd, he, ir, gf⟩ := expr_iff.1 iq
  subst ir
  refine b1u 3 Y (by kernel_rfl) (by kernel_rfl) (by kernel_rfl) Y Y Y Y j0 S3 (d_tk 4 Y (by kernel_rfl) Y Y Y Y S3 (fun _ _ _ hleq hq => a3c ag24 sz24 Y Y hq (ip.mono hleq) Y Y Yn) (d_tk 6 Y (by kernel_rfl) Y Y Y Y S3 (fun _ _ _ _ hq => a0q ag59 sz59 Y Y hq Y (i := 1) Y Y Yn) (d_tk 7 Y (by kernel_rfl) Y Y Y Y S3 (fun _ _ _ _ _ => a0f fa24_3 Y Y Y Yn) (d_tk 8 Y (by kernel_rfl) Y Y Y Y S3 (fun _ _ _ _ hq => a0n ag22 Y Y hq Y (i := 0) Y Y Yn) ?_))))
  obtain ⟨ex7, it, hm⟩ := Yb hm
  obtain ⟨b9, o7, gw, iu, iv, j1⟩ := a2k (P := Tryz.prog) (r := rp_Expr) u22 sz24 x it
  obtain ⟨hh, hi, hj, iw, gg⟩ := expr_iff.1 iv
  subst iw
  refine b1u 9 Y (by kernel_rfl) (by kernel_rfl) (by kernel_rfl) Y Y Y Y j1 S3 (d_tk 10 Y (by kernel_rfl) Y Y Y Y S3 (fun _ _ _ hleq hq => a3c ag24 sz24 Y Y hq (iu.mono hleq) Y Y Yn) (a0z 5 Y (by kernel_rfl) ?_))
  obtain ⟨v8, i6, hm⟩ := Yb hm
  refine a0i ent23 Y Y Y Y gb (ih.1 _ _ _ i6 gb.sat m o p gf) ?_
  rintro _ kz _ ky T g5 ⟨hk, hl, hn, hu, hv, hw, rfl, rfl, gh, gi⟩
  refine a0v (g5.Ys T [0, 1] Y Y) (a0z 11 Y (by kernel_rfl) ?_)
  obtain ⟨v9, id, hm⟩ := Yb hm
  refine a0i ent23 Y Y Y Y g5 (ih.1 _ _ _ id g5.sat (m.mono T) (o.mono T) (p.mono T) (gg.mono T)) ?_
  rintro _ i7 _ jf q gc ⟨hx, hy, hz, ji, jj, jk, rfl, rfl, gj, gk⟩
  refine a0v (gc.Ys (T.trans q) [0, 1] Y Y) (a0z 12 Y (by kernel_rfl) ?_)
  obtain ⟨v10, il, hm⟩ := Yb hm
  refine a0i ent37 Y Y Y Y gc (b1l _ _ _ _ il gc.sat (gh.mono q) (gi.mono q) gj gk) ?_
  rintro _ l0 _ jh gd U ⟨rfl, rfl⟩
  refine a0v (U.Ys ((T.trans q).trans gd) [0, 1] Y Y) (d_tk 13 Y (by kernel_rfl) Y Y Y Y (U.Ys ((T.trans q).trans gd) [0, 1] Y Y) (fun _ _ _ _ _ => a0b Y Y Y Yn) (a2u (by kernel_rfl) (a0c (a0g (a0g (a0a (a0f fa24_0 Y Y Y (a0n ag3 Y Y U Y (i := 0) Y Y (a0u Y Y Y Y Y ?_)))))))))
  refine a0e (a0c ?_)
  rcases a0h hm with ⟨iz, hm⟩ | ⟨iz, hm⟩
  refine a0r 64 Y iz (a0x Y (a0g (a0a (a0d Y Y Y (a0u Y Y Y Y Y (a0b Y Y Y (a0e (a0c (a1c (a0j (a1n Y Y ?_)))))))))))
  obtain rfl := Yo hm
  exact ⟨_, _, _, Y, U.Yp [] Y Y, Y, Y⟩
  refine a0r 64 Y iz (a0p Y (a1b (a0c (a0g (a0a (a0d Y Y Y (a0u Y Y Y Y Y (a0b Y Y Y (a0e (a0c (a1c (a1n Y Y ?_))))))))))))
  obtain rfl := Yo hm
  exact ⟨_, _, _, Y, U.Yp [] Y Y, Y, Y⟩
theorem b5l (n : Nat) (k1 : known) (x1 : Expr) (r : Frac) (hm : fee_known_number n k1 x1 = some r) {w : World} {F : Frz} (hs : Sat F w) {g h i j : Option Addr} {k l m o p q s t : Nat} (u : SlR Rp.str F g k l k1.names) (x : SlR (Rp.int .i64) F h m o k1.facts.Lifts) (y : SlR rp_Frac F i p q k1.weights) (z : SlR rp_Expr F j s t x1.Args) :
  Calls Tryz.prog 23 #[.agg #[.slice g k l, .slice h m o, .int .i64 k1.facts.Persons, .int .i64 k1.facts.Flats, .slice i p q], .agg #[.int .i64 x1.Op, .int .i64 x1.N, vs x1.Name, .slice j s t]] w fun e w' => ∃ v F' O', e = .returned v ∧ HS F w [] F' O' w' ∧ (∃ (a0_1 : Option Addr) (n0_1 : Nat) (c0_1 : Nat) (a0_3 : Option Addr) (n0_3 : Nat) (c0_3 : Nat), v = .agg #[.int .i64 r.P.Sign, .slice a0_1 n0_1 c0_1, .int .i64 r.Q.Sign, .slice a0_3 n0_3 c0_3] ∧ O' = [] ∧ SlR (Rp.int .i64) F' a0_1 n0_1 c0_1 r.P.Digits ∧ SlR (Rp.int .i64) F' a0_3 n0_3 c0_3 r.Q.Digits) :=
 (b5b n).1 k1 x1 r hm hs u x y z
theorem ent20 : Ent Tryz.prog 20 := fun _ _ => by kernel_rfl
theorem ag30 : a9h Tryz.prog 30 true := fun _ => by kernel_rfl
theorem sz30 : a4i Tryz.prog 30 3 := fun _ => by kernel_rfl
theorem ent21 : Ent Tryz.prog 21 := fun _ _ => by kernel_rfl
theorem ent22 : Ent Tryz.prog 22 := fun _ _ => by kernel_rfl
def a7k (n : Nat) (t1 : Tariff) (names1 : (List Bs)) (f1 : Facts) (weights1 : (List Frac)) : Option (Frac × Int) :=
 (b0o n t1 names1).bind fun v1 =>
 bif v1 != 0 then
  some ((⟨(⟨0, []⟩ : Big), (⟨0, []⟩ : Big)⟩ : Frac), v1)
 else
  (b3t n f1 weights1 (names1.length : Int)).bind fun v2 =>
  bif !v2 then
   some ((⟨(⟨0, []⟩ : Big), (⟨0, []⟩ : Big)⟩ : Frac), 1)
  else
   (fee_known_number n (⟨names1, f1, weights1⟩ : known) t1.Fee).bind fun v3 =>
   (b4c n v3).bind fun v4 =>
   some (v4, 0)
theorem b1z (n : Nat) (t1 : Tariff) (names1 : (List Bs)) (f1 : Facts) (weights1 : (List Frac)) (r : (Frac × Int)) (hm : a7k n t1 names1 f1 weights1 = some r) {w : World} {F : Frz} (hs : Sat F w) {m o p q : Option Addr} {s t u x y z G H : Nat} (R : SlR rp_Expr F m s t t1.Fee.Args) (I : SlR Rp.str F o u x names1) (T : SlR (Rp.int .i64) F p y z f1.Lifts) (U : SlR rp_Frac F q G H weights1) :
  Calls Tryz.prog 6 #[.agg #[vs t1.Name, .int .i64 t1.Fee.Op, .int .i64 t1.Fee.N, vs t1.Fee.Name, .slice m s t, .int .i64 t1.Cap], .slice o u x, .agg #[.slice p y z, .int .i64 f1.Persons, .int .i64 f1.Flats], .slice q G H] w fun e w' => ∃ v F' O', e = .returned v ∧ HS F w [] F' O' w' ∧ (∃ (a0_1 : Option Addr) (n0_1 : Nat) (c0_1 : Nat) (a0_3 : Option Addr) (n0_3 : Nat) (c0_3 : Nat), v = .tuple #[.agg #[.int .i64 r.1.P.Sign, .slice a0_1 n0_1 c0_1, .int .i64 r.1.Q.Sign, .slice a0_3 n0_3 c0_3], .int .i64 r.2] ∧ O' = [] ∧ SlR (Rp.int .i64) F' a0_1 n0_1 c0_1 r.1.P.Digits ∧ SlR (Rp.int .i64) F' a0_3 n0_3 c0_3 r.1.Q.Digits) := by
 unfold a7k at hm
 have h := HS.init hs
 refine a1a 33 Tryz.func6 Y Y Y (a0g (a0a (a2z Y Y Y Y h ?_)))
 intro b1 gj g7
 refine a2z Y Y Y Y g7 ?_
 intro b2 gk g8
 refine a1h ze37 Y Y Y g8 ?_
 intro b3 gl J
 refine a0b Y Y Y (a0e (a0c (a0g (a0g (a0a (a0q ag26 sz26 Y Y J Y (i := 2) Y Y (a0d Y Y Y ?_)))))))
 obtain ⟨v1, g9, hm⟩ := Yb hm
 refine a0i ent20 Y Y Y Y J (c0l _ _ _ _ g9 J.sat R I) ?_
 rintro _ gm _ gn g k ⟨rfl, rfl⟩
 refine a0b Y Y Y (a0e (a0c (a0g (a0a (a0d Y Y Y (a0u Y Y Y Y Y (a0e (a0c ?_))))))))
 rcases a0h hm with ⟨K, hm⟩ | ⟨K, hm⟩
 refine a0r 15 Y K (a0x Y (a0g (a0a (a1r (v := .agg #[.int .i64 0, .slice none 0 0, .int .i64 0, .slice none 0 0]) Y Y Y (fun _ => by kernel_rfl) (a0d Y Y Y (a0o sz37 Y k Y Y Y Y (i := 0) Y Y Y Y ?_))))))
 intro go V
 refine a0b Y Y Y (a0e (a0c (a1c (a0j (a1q (vl := [.agg #[.int .i64 0, .slice none 0 0, .int .i64 0, .slice none 0 0], .int .i64 v1]) Y ⟨a2h ag37 sz37 Y V Y (i := 0) Y, a1p Y, trivial⟩ (by simp) ?_)))))
 obtain rfl := Yo hm
 exact ⟨_, _, _, Y, V.Yp [] Y Y, none, 0, 0, none, 0, 0, Y, Y, SlR.nil _ _, SlR.nil _ _⟩
 refine a0r 15 Y K (a0p Y (a1b (a0c (a0g (a0g (a0a (a0q ag30 sz30 Y Y k Y (i := 1) Y Y (a0d Y Y Y (a0d Y Y Y (a1y I.len u27 Y Y Y ?_))))))))))
 obtain ⟨v2, ga, hm⟩ := Yb hm
 refine a0i ent21 Y Y Y Y k (c3z _ _ _ _ _ ga k.sat (T.mono g) (U.mono g)) ?_
 rintro _ gp _ gq l j ⟨rfl, rfl⟩
 refine a4c Y Y Y (a0e (a0c ?_))
 rcases a0h hm with ⟨L, hm⟩ | ⟨L, hm⟩
 refine a0r 23 Y L (a0x Y (a0g (a0a (a1r (v := .agg #[.int .i64 0, .slice none 0 0, .int .i64 0, .slice none 0 0]) Y Y Y (fun _ => by kernel_rfl) (a0o sz37 Y j Y Y Y Y (i := 0) Y Y Y Y ?_)))))
 intro gr Z
 refine a0b Y Y Y (a0e (a0c (a1c (a0j (a1q (vl := [.agg #[.int .i64 0, .slice none 0 0, .int .i64 0, .slice none 0 0], .int .i64 1]) Y ⟨a2h ag37 sz37 Y Z Y (i := 0) Y, a1p Y, trivial⟩ (by simp) ?_)))))
 obtain rfl := Yo hm
 exact ⟨_, _, _, Y, Z.Yp [] Y Y, none, 0, 0, none, 0, 0, Y, Y, SlR.nil _ _, SlR.nil _ _⟩
 refine a0r 23 Y L (a0p Y (a1b (a0c (a0g (a0a (a0d Y Y Y (a0q ag30 sz30 Y Y j Y (i := 1) Y Y (a0d Y Y Y (a1r (v := .agg #[.slice o u x, .slice p y z, .int .i64 f1.Persons, .int .i64 f1.Flats, .slice q G H]) Y Y Y (fun _ => by kernel_rfl) (a0f fa26_1 Y Y Y (a2p (cs' := [.int .i64 t1.Fee.Op, .int .i64 t1.Fee.N, vs t1.Fee.Name, .slice m s t]) ag24 sz24 Y Y j Y (i := 2) Y Y Y ?_)))))))))))
 obtain ⟨v3, gb, hm⟩ := Yb hm
 refine a0i ent23 Y Y Y Y j (b5l _ _ _ _ gb j.sat ((I.mono g).mono l) ((T.mono g).mono l) ((U.mono g).mono l) ((R.mono g).mono l)) ?_
 rintro _ gs _ gt gu g0 ⟨gv, gw, gx, gy, gz, h0, rfl, rfl, gc, gd⟩
 obtain ⟨v4, ge, hm⟩ := Yb hm
 refine a0i ent22 Y Y Y Y g0 (c3s _ _ _ ge g0.sat gc gd) ?_
 rintro _ h1 _ h2 h3 gf ⟨g1, g2, g3, g4, g5, g6, rfl, rfl, gg, gh⟩
 refine a0o sz37 Y gf Y Y Y Y (i := 0) Y Y Y Y ?_
 intro gi M
 refine a0b Y Y Y (a0e (a0c (a1c (a1q (vl := [.agg #[.int .i64 v4.P.Sign, .slice g1 g2 g3, .int .i64 v4.Q.Sign, .slice g4 g5 g6], .int .i64 0]) Y ⟨a2h ag37 sz37 Y M Y (i := 0) Y, a1p Y, trivial⟩ (by simp) ?_))))
 obtain rfl := Yo hm
 exact ⟨_, _, _, Y, M.Yp [] Y Y, g1, g2, g3, g4, g5, g6, Y, Y, gg, gh⟩
theorem ent6 : Ent Tryz.prog 6 := fun _ _ => by kernel_rfl
def a9u (n : Nat) (t1 : Tariff) (names1 : (List Bs)) (f1 : Facts) (weights1 : (List Frac)) : Option (Frac × Int) :=
 (a7k n t1 names1 f1 weights1).bind fun v1 =>
 bif v1.2 != 0 then
  some ((⟨(⟨0, []⟩ : Big), (⟨0, []⟩ : Big)⟩ : Frac), v1.2)
 else
  (b2z n v1.1).bind fun v2 =>
  bif decide (v2 < 0) then
   (a6x n 0).bind fun v3 =>
   some (v3, 0)
  else
   (bif t1.Cap != (-1) then
    (a6x n t1.Cap).bind fun v6 =>
    (a6l n v1.1 v6).bind fun v7 =>
    some (decide (0 < v7))
   else
    some false).bind fun v4 =>
   bif v4 then
    (a6x n t1.Cap).bind fun v5 =>
    some (v5, 0)
   else
    some (v1.1, 0)
theorem b3c (n : Nat) (t1 : Tariff) (names1 : (List Bs)) (f1 : Facts) (weights1 : (List Frac)) (r : (Frac × Int)) (hm : a9u n t1 names1 f1 weights1 = some r) {w : World} {F : Frz} (hs : Sat F w) {p gb q gc : Option Addr} {s t gd ge u x gf gg : Nat} (gz : SlR rp_Expr F p s t t1.Fee.Args) (h0 : SlR Rp.str F gb gd ge names1) (h1 : SlR (Rp.int .i64) F q u x f1.Lifts) (h2 : SlR rp_Frac F gc gf gg weights1) :
  Calls Tryz.prog 10 #[.agg #[vs t1.Name, .int .i64 t1.Fee.Op, .int .i64 t1.Fee.N, vs t1.Fee.Name, .slice p s t, .int .i64 t1.Cap], .slice gb gd ge, .agg #[.slice q u x, .int .i64 f1.Persons, .int .i64 f1.Flats], .slice gc gf gg] w fun e w' => ∃ v F' O', e = .returned v ∧ HS F w [] F' O' w' ∧ (∃ (a0_1 : Option Addr) (n0_1 : Nat) (c0_1 : Nat) (a0_3 : Option Addr) (n0_3 : Nat) (c0_3 : Nat), v = .tuple #[.agg #[.int .i64 r.1.P.Sign, .slice a0_1 n0_1 c0_1, .int .i64 r.1.Q.Sign, .slice a0_3 n0_3 c0_3], .int .i64 r.2] ∧ O' = [] ∧ SlR (Rp.int .i64) F' a0_1 n0_1 c0_1 r.1.P.Digits ∧ SlR (Rp.int .i64) F' a0_3 n0_3 c0_3 r.1.Q.Digits) := by
 unfold a9u at hm
 have h := HS.init hs
 refine a1a 46 Tryz.func10 Y Y Y (a0g (a0a (a2z Y Y Y Y h ?_)))
 intro b1 hz h3
 refine a2z Y Y Y Y h3 ?_
 intro b2 i0 h4
 refine a1h ze37 Y Y Y h4 ?_
 intro b3 i1 y
 refine a0b Y Y Y (a0e (a0c (a0g (a0a (a0q ag26 sz26 Y Y y Y (i := 2) Y Y (a0d Y Y Y (a0q ag30 sz30 Y Y y Y (i := 1) Y Y (a0d Y Y Y ?_))))))))
 obtain ⟨v1, h5, hm⟩ := Yb hm
 refine a0i ent6 Y Y Y Y y (b1z _ _ _ _ _ _ h5 y.sat gz h0 h1 h2) ?_
 rintro _ i2 _ i3 i4 h6 ⟨z, G, H, I, J, K, rfl, rfl, R, T⟩
 refine a0d Y Y Y (a0l Y Y Y Y (a0l Y Y Y Y (a1h ze37 Y Y Y h6 ?_)))
 intro b4 i5 h7
 refine a0o sz37 Y h7 Y Y Y Y (i := 0) Y Y Y Y ?_
 intro i6 L
 refine a0b Y Y Y (a0e (a0c (a0g (a1j (a0g (a0a (a0d Y Y Y (a0u Y Y Y Y Y (a0b Y Y Y (a0e (a0c ?_)))))))))))
 rcases a0h hm with ⟨U, hm⟩ | ⟨U, hm⟩
 refine a0r 20 Y U (a0x Y (a0g (a0a (a1r (v := .agg #[.int .i64 0, .slice none 0 0, .int .i64 0, .slice none 0 0]) Y Y Y (fun _ => by kernel_rfl) (a0d Y Y Y (a0o sz37 Y L Y Y Y Y (i := 1) Y Y Y Y ?_))))))
 intro i7 gh
 refine a0b Y Y Y (a0e (a0c (a1c (a0t (a0j (a1q (vl := [.agg #[.int .i64 0, .slice none 0 0, .int .i64 0, .slice none 0 0], .int .i64 v1.2]) Y ⟨a2h ag37 sz37 Y gh Y (i := 1) Y, a1p Y, trivial⟩ (by simp) ?_))))))
 obtain rfl := Yo hm
 exact ⟨_, _, _, Y, gh.Yp [] Y Y, none, 0, 0, none, 0, 0, Y, Y, SlR.nil _ _, SlR.nil _ _⟩
 refine a0r 20 Y U (a0p Y (a0g (a0a (a0q ag37 sz37 Y Y L Y (i := 0) Y Y ?_))))
 obtain ⟨v2, h8, hm⟩ := Yb hm
 refine a0i ent35 Y Y Y Y L (b7g _ _ _ h8 L.sat R T) ?_
 rintro _ gi _ i8 M V ⟨rfl, rfl⟩
 refine a0u Y Y Y Y Y (a0b Y Y Y (a0e (a0c ?_)))
 rcases a0h hm with ⟨Z, hm⟩ | ⟨Z, hm⟩
 refine a0r 25 Y Z (a0x Y (a0g (a0a ?_)))
 obtain ⟨v3, h9, hm⟩ := Yb hm
 refine a0i ent36 Y Y Y Y V (a8t _ _ _ h9 V.sat) ?_
 rintro _ i9 _ ia ib hb ⟨gj, gk, gl, gm, gn, go, rfl, rfl, hc, hd⟩
 refine a0o sz37 Y hb Y Y Y Y (i := 1) Y Y Y Y ?_
 intro hi g0
 refine a0b Y Y Y (a0e (a0c (a1c (a0t (a0j (a1q (vl := [.agg #[.int .i64 v3.P.Sign, .slice gj gk gl, .int .i64 v3.Q.Sign, .slice gm gn go], .int .i64 0]) Y ⟨a2h ag37 sz37 Y g0 Y (i := 1) Y, a1p Y, trivial⟩ (by simp) ?_))))))
 obtain rfl := Yo hm
 exact ⟨_, _, _, Y, g0.Yp [] Y Y, gj, gk, gl, gm, gn, go, Y, Y, hc, hd⟩
 refine a0r 25 Y Z (a0p Y (a0g (a2f (SH gi [.box b4 37 [.int .i64 v1.1.P.Sign, .slice z G H, .int .i64 v1.1.Q.Sign, .slice I J K], .box b3 37 [.int .i64 0, .slice none 0 0, .int .i64 0, .slice none 0 0], .box b2 30 [.slice q u x, .int .i64 f1.Persons, .int .i64 f1.Flats], .box b1 26 [vs t1.Name, .int .i64 t1.Fee.Op, .int .i64 t1.Fee.N, vs t1.Fee.Name, .slice p s t, .int .i64 t1.Cap]]) 12 Y (by kernel_rfl) V ?_)))
 intro hj k
 have S0 := k.Ys Yf [0, 1, 2, 3] Y Y
 refine d_tk 0 Y (by kernel_rfl) Y Y Y Y S0 (fun _ _ _ _ _ => a0f fa26_2 Y Y Y Yn) (d_tk 1 Y (by kernel_rfl) Y Y Y Y S0 (fun _ _ _ _ hq => a0n ag3 Y Y hq Y (i := 3) Y Y Yn) (d_tk 2 Y (by kernel_rfl) Y Y Y Y S0 (fun _ _ _ _ _ => a0u Y Y Y Y Y Yn) (d_tk 3 Y (by kernel_rfl) Y Y Y Y S0 (fun _ _ _ _ _ => a0d Y Y Y Yn) ?_)))
 obtain ⟨v4, g, hm⟩ := Yb hm
 refine d2f (fuel' := 1) (listed' := #[true, true, true, true, true, true, true, true, true, true, true, false]) (fun a w' => ∃ (g1 : Frz), Frz.le gi g1 ∧ HS F w [] g1 [.box b4 37 [.int .i64 v1.1.P.Sign, .slice z G H, .int .i64 v1.1.Q.Sign, .slice I J K], .box b3 37 [.int .i64 0, .slice none 0 0, .int .i64 0, .slice none 0 0], .box b2 30 [.slice q u x, .int .i64 f1.Persons, .int .i64 f1.Flats], .box b1 26 [vs t1.Name, .int .i64 t1.Fee.Op, .int .i64 t1.Fee.N, vs t1.Fee.Name, .slice p s t, .int .i64 t1.Cap]] w' ∧ Has 46 a [(4, .pointer (some ⟨b1, 0, none⟩)), (8, .pointer (some ⟨b3, 0, none⟩)), (10, .pointer (some ⟨b4, 0, none⟩)), (41, .bool v4)]) ?_ (fun gp => ?_)
 rintro a hk ⟨g1, g2, j, gu⟩
 refine b8l gu (d_tk 11 Y (by kernel_rfl) Y Y Y Y (j.Ys g2 [0, 1, 2, 3] Y Y) (fun _ _ _ _ _ => a0b Y Y Y Yn) (a2u (by kernel_rfl) (a0c ?_)))
 rcases a0h hm with ⟨g3, hm⟩ | ⟨g3, hm⟩
 refine a0r 30 Y g3 (a0x Y (a0g (a0a (a0f fa26_2 Y Y Y (a0n ag3 Y Y j Y (i := 3) Y Y ?_)))))
 obtain ⟨v5, he, hm⟩ := Yb hm
 refine a0i ent36 Y Y Y Y j (a8t _ _ _ he j.sat) ?_
 rintro _ ic _ hl id gv ⟨gq, gr, gs, g4, g5, g6, rfl, rfl, hf, gw⟩
 refine a0o sz37 Y gv Y Y Y Y (i := 1) Y Y Y Y ?_
 intro hn g7
 refine a0b Y Y Y (a0e (a0c (a1c (a0t (a0j (a1q (vl := [.agg #[.int .i64 v5.P.Sign, .slice gq gr gs, .int .i64 v5.Q.Sign, .slice g4 g5 g6], .int .i64 0]) Y ⟨a2h ag37 sz37 Y g7 Y (i := 1) Y, a1p Y, trivial⟩ (by simp) ?_))))))
 obtain rfl := Yo hm
 exact ⟨_, _, _, Y, g7.Yp [] Y Y, gq, gr, gs, g4, g5, g6, Y, Y, hf, gw⟩
 refine a0r 30 Y g3 (a0p Y (a1b (a1o (a0c (a0g (a0a (a0q ag37 sz37 Y Y j Y (i := 0) Y Y (a0o sz37 Y j Y Y Y Y (i := 1) Y Y Y Y ?_))))))))
 intro ho g8
 refine a0b Y Y Y (a0e (a0c (a1c (a1q (vl := [.agg #[.int .i64 v1.1.P.Sign, .slice z G H, .int .i64 v1.1.Q.Sign, .slice I J K], .int .i64 0]) Y ⟨a2h ag37 sz37 Y g8 Y (i := 1) Y, a1p Y, trivial⟩ (by simp) ?_))))
 obtain rfl := Yo hm
 exact ⟨_, _, _, Y, g8.Yp [] Y Y, z, G, H, I, J, K, Y, Y, ((R.mono M).mono g2), ((T.mono M).mono g2)⟩
 clear hm
 rcases a0h g with ⟨g9, g⟩ | ⟨g9, g⟩
 refine c4a 34 Y g9 (d_tk 4 Y (by kernel_rfl) Y Y Y Y S0 (fun _ _ _ _ hq => a0q ag37 sz37 Y Y hq Y (i := 0) Y Y Yn) (d_tk 5 Y (by kernel_rfl) Y Y Y Y S0 (fun _ _ _ _ _ => a0f fa26_2 Y Y Y Yn) (d_tk 6 Y (by kernel_rfl) Y Y Y Y S0 (fun _ _ _ _ hq => a0n ag3 Y Y hq Y (i := 3) Y Y Yn) (a0z 7 Y (by kernel_rfl) ?_))))
 obtain ⟨v6, hg, g⟩ := Yb g
 refine a0i ent36 Y Y Y Y k (a8t _ _ _ hg k.sat) ?_
 rintro _ ie _ hp m o ⟨hr, ht, hu, hv, hw, hx, rfl, rfl, gx, gy⟩
 refine a0v (o.Ys m [0, 1, 2, 3] Y Y) (a0z 8 Y (by kernel_rfl) ?_)
 obtain ⟨v7, hh, g⟩ := Yb g
 refine a0i ent37 Y Y Y Y o (b1l _ _ _ _ hh o.sat ((R.mono M).mono m) ((T.mono M).mono m) gx gy) ?_
 rintro _ ig _ hy gt ga ⟨rfl, rfl⟩
 have S1 := ga.Ys (m.trans gt) [0, 1, 2, 3] Y Y
 refine a0v S1 (d_tk 9 Y (by kernel_rfl) Y Y Y Y S1 (fun _ _ _ _ _ => a0u Y Y Y Y Y Yn) (d_tk 10 Y (by kernel_rfl) Y Y Y Y S1 (fun _ _ _ _ _ => a0s Y Y Y Y Yn) (c3x gp (by kernel_rfl) (fun a ha => ?_))))
 cases g
 exact ⟨_, (m.trans gt), ga.Yp [0, 1, 2, 3] Y Y, ha.cut (l := [4, 8, 10, 41]) Y⟩
 refine c4a 34 Y g9 (d_of 4 Y (by kernel_rfl) Y Y Y S0 (d_of 5 Y (by kernel_rfl) Y Y Y S0 (d_of 6 Y (by kernel_rfl) Y Y Y S0 (d_of 7 Y (by kernel_rfl) Y Y Y S0 (d_of 8 Y (by kernel_rfl) Y Y Y S0 (d_of 9 Y (by kernel_rfl) Y Y Y S0 ?_))))))
 refine d_tk 10 Y (by kernel_rfl) Y Y Y Y S0 (fun _ _ _ _ _ => a0m Y Y Y Y Yn) (c3x gp (by kernel_rfl) (fun a ha => ?_))
 cases g
 exact ⟨_, Yf, k.Yp [0, 1, 2, 3] Y Y, ha.cut (l := [4, 8, 10, 41]) Y⟩
theorem ent19 : Ent Tryz.prog 19 := fun _ _ => by kernel_rfl
theorem ent18 : Ent Tryz.prog 18 := fun _ _ => by kernel_rfl
def a5v (n : Nat) (weights1 : (List Frac)) (kont1 : Option Bool) : Nat → Int → Option Bool
 | 0, _ => none
 | mx1 + 1, i2 =>
  (bif decide (i2 < (weights1.length : Int)) then
   some (decide (i2 < 10))
  else
   some false).bind fun v6 =>
  bif v6 then
   (ix weights1 i2).bind fun ex1 =>
   (b0n n ex1 4).bind fun v7 =>
   bif !v7 then
    some false
   else
    a5v n weights1 kont1 mx1 (iadd .i64 i2 1)
  else
   kont1
theorem b0h (n : Nat) (weights1 : (List Frac)) (kont1 : Option Bool) (mx1 : Nat) (i2 : Int) : a5v n weights1 kont1 (mx1 + 1) i2 =
  (bif decide (i2 < (weights1.length : Int)) then
   some (decide (i2 < 10))
  else
   some false).bind fun v6 =>
  bif v6 then
   (ix weights1 i2).bind fun ex1 =>
   (b0n n ex1 4).bind fun v7 =>
   bif !v7 then
    some false
   else
    a5v n weights1 kont1 mx1 (iadd .i64 i2 1)
  else
   kont1 := rfl
def a7j (n : Nat) (names1 : (List Bs)) (kont2 : Option Bool) : Nat → Int → Option Bool
 | 0, _ => none
 | mx2 + 1, i1 =>
  (bif decide (i1 < (names1.length : Int)) then
   some (decide (i1 < 10))
  else
   some false).bind fun v8 =>
  bif v8 then
   (ix names1 i1).bind fun ex2 =>
   bif decide (30 < (ex2.length : Int)) then
    some false
   else
    a7j n names1 kont2 mx2 (iadd .i64 i1 1)
  else
   kont2
theorem b0g (n : Nat) (names1 : (List Bs)) (kont2 : Option Bool) (mx2 : Nat) (i1 : Int) : a7j n names1 kont2 (mx2 + 1) i1 =
  (bif decide (i1 < (names1.length : Int)) then
   some (decide (i1 < 10))
  else
   some false).bind fun v8 =>
  bif v8 then
   (ix names1 i1).bind fun ex2 =>
   bif decide (30 < (ex2.length : Int)) then
    some false
   else
    a7j n names1 kont2 mx2 (iadd .i64 i1 1)
  else
   kont2 := rfl
def b3z (n : Nat) (t1 : Tariff) (names1 : (List Bs)) (f1 : Facts) (weights1 : (List Frac)) : Option Bool :=
 a7j n names1 (
  a5v n weights1 (
   (a9l n t1.Fee 60 12).bind fun v1 =>
   (bif v1 then
    some (decide ((t1.Name.length : Int) ≤ 30))
   else
    some false).bind fun v2 =>
   (bif v2 then
    some (decide ((names1.length : Int) ≤ 8))
   else
    some false).bind fun v3 =>
   (bif v3 then
    some (decide ((f1.Lifts.length : Int) ≤ 8))
   else
    some false).bind fun v4 =>
   (bif v4 then
    some (decide ((weights1.length : Int) ≤ 8))
   else
    some false).bind fun v5 =>
   some v5) n 0) n 0
theorem c3i (n : Nat) (t1 : Tariff) (names1 : (List Bs)) (f1 : Facts) (weights1 : (List Frac)) (r : Bool) (hm : b3z n t1 names1 f1 weights1 = some r) {w : World} {F : Frz} (hs : Sat F w) {z q g0 g : Option Addr} {G x t k g1 g2 o p : Nat} (gw : SlR rp_Expr F z G x t1.Fee.Args) (g5 : SlR Rp.str F q t k names1) (gx : SlR (Rp.int .i64) F g0 g1 g2 f1.Lifts) (g6 : SlR rp_Frac F g o p weights1) :
  Calls Tryz.prog 5 #[.agg #[vs t1.Name, .int .i64 t1.Fee.Op, .int .i64 t1.Fee.N, vs t1.Fee.Name, .slice z G x, .int .i64 t1.Cap], .slice q t k, .agg #[.slice g0 g1 g2, .int .i64 f1.Persons, .int .i64 f1.Flats], .slice g o p] w fun e w' => ∃ v F' O', e = .returned v ∧ HS F w [] F' O' w' ∧ (v = .bool r ∧ O' = []) := by
 unfold b3z at hm
 have h := HS.init hs
 refine a1a 68 Tryz.func5 Y Y Y (a0g (a0a (a2z Y Y Y Y h ?_)))
 intro b1 hi gy
 refine a2z Y Y Y Y gy ?_
 intro b2 g7 g8
 refine a0b Y Y Y (a0e (a0c (a0g (a0g (a0a (a0b Y Y Y (a0e (a0c (a1j ?_)))))))))
 intro a gi
 obtain ⟨kont2, hkont2⟩ : ∃ kont2 : Option Bool, kont2 = ( a5v n weights1 ( (a9l n t1.Fee 60 12).bind fun v1 => (bif v1 then some (decide ((t1.Name.length : Int) ≤ 30)) else some false).bind fun v2 => (bif v2 then some (decide ((names1.length : Int) ≤ 8)) else some false).bind fun v3 => (bif v3 then some (decide ((f1.Lifts.length : Int) ≤ 8)) else some false).bind fun v4 => (bif v4 then some (decide ((weights1.length : Int) ≤ 8)) else some false).bind fun v5 => some v5) n 0) := ⟨_, Y⟩
 replace hm : (fun m (s : Int) => a7j n names1 kont2 m s) n 0 = some r := by rw [hkont2]; exact hm
 refine a5j (id := 0) (fun m (s : Int) => a7j n names1 kont2 m s) (fun (y : Unit) => kont2) r (fun (s : Int) a w' => g7 = w' ∧ Has 68 a [(1, .slice q t k), (3, .slice g o p), (4, .pointer (some ⟨b1, 0, none⟩)), (6, .pointer (some ⟨b2, 0, none⟩)), (9, .int .i64 s)]) (fun (y : Unit) a w' => g7 = w' ∧ Has 68 a [(1, .slice q t k), (3, .slice g o p), (4, .pointer (some ⟨b1, 0, none⟩)), (6, .pointer (some ⟨b2, 0, none⟩))]) (fun _ => Y) ?_ ?_ hm ⟨Y, gi.cut (l := [1, 3, 4, 6, 9]) Y⟩
 clear hm; rintro _u a hj hm ⟨rfl, gm⟩
 rw [hkont2] at hm
 refine a2c (e := .exit 0) gm (a1m (a0c (a0g (a0g (a0a (a0b Y Y Y (a0e (a0c (a1j ?_)))))))))
 intro a gn
 obtain ⟨kont1, hkont1⟩ : ∃ kont1 : Option Bool, kont1 = ( (a9l n t1.Fee 60 12).bind fun v1 => (bif v1 then some (decide ((t1.Name.length : Int) ≤ 30)) else some false).bind fun v2 => (bif v2 then some (decide ((names1.length : Int) ≤ 8)) else some false).bind fun v3 => (bif v3 then some (decide ((f1.Lifts.length : Int) ≤ 8)) else some false).bind fun v4 => (bif v4 then some (decide ((weights1.length : Int) ≤ 8)) else some false).bind fun v5 => some v5) := ⟨_, Y⟩
 replace hm : (fun m (s : Int) => a5v n weights1 kont1 m s) n 0 = some r := by rw [hkont1]; exact hm
 refine a5j (id := 2) (fun m (s : Int) => a5v n weights1 kont1 m s) (fun (y : Unit) => kont1) r (fun (s : Int) a w' => ∃ (g9 : Frz), Frz.le F g9 ∧ HS F w [] g9 [.box b2 30 [.slice g0 g1 g2, .int .i64 f1.Persons, .int .i64 f1.Flats], .box b1 26 [vs t1.Name, .int .i64 t1.Fee.Op, .int .i64 t1.Fee.N, vs t1.Fee.Name, .slice z G x, .int .i64 t1.Cap]] w' ∧ Has 68 a [(1, .slice q t k), (3, .slice g o p), (4, .pointer (some ⟨b1, 0, none⟩)), (6, .pointer (some ⟨b2, 0, none⟩)), (10, .int .i64 s)]) (fun (y : Unit) a w' => ∃ (ga : Frz), Frz.le F ga ∧ HS F w [] ga [.box b2 30 [.slice g0 g1 g2, .int .i64 f1.Persons, .int .i64 f1.Flats], .box b1 26 [vs t1.Name, .int .i64 t1.Fee.Op, .int .i64 t1.Fee.N, vs t1.Fee.Name, .slice z G x, .int .i64 t1.Cap]] w' ∧ Has 68 a [(1, .slice q t k), (3, .slice g o p), (4, .pointer (some ⟨b1, 0, none⟩)), (6, .pointer (some ⟨b2, 0, none⟩))]) (fun _ => Y) ?_ ?_ hm ⟨_, Yf, g8.Yp [0, 1] Y Y, gn.cut (l := [1, 3, 4, 6, 10]) Y⟩
 clear hm; rintro _u a hk hm ⟨ga, gz, gb, go⟩
 rw [hkont1] at hm
 refine a2c (e := .exit 2) go (a1m (a0c (a0g (a0a (a0f fa26_1 Y Y Y (a2p (cs' := [.int .i64 t1.Fee.Op, .int .i64 t1.Fee.N, vs t1.Fee.Name, .slice z G x]) ag24 sz24 Y Y gb Y (i := 1) Y Y Y ?_))))))
 obtain ⟨v1, h0, hm⟩ := Yb hm
 refine a0i ent19 Y Y Y Y gb (c4k _ _ _ _ _ h0 gb.sat (gw.mono gz)) ?_
 rintro _ hl _ g3 hn gc ⟨rfl, rfl⟩
 refine a0d Y Y Y ?_
 obtain ⟨v2, H, hm⟩ := Yb hm
 refine a2g 5 (fun a w' => g3 = w' ∧ Has 68 a [(1, .slice q t k), (3, .slice g o p), (6, .pointer (some ⟨b2, 0, none⟩)), (51, .bool v2)]) ?_ ?_
 rintro a ho ⟨rfl, gp⟩
 refine a1d gp (a0d Y Y Y ?_)
 obtain ⟨v3, I, hm⟩ := Yb hm
 refine a2g 4 (fun a w' => g3 = w' ∧ Has 68 a [(3, .slice g o p), (6, .pointer (some ⟨b2, 0, none⟩)), (56, .bool v3)]) ?_ ?_
 rintro a hp ⟨rfl, gq⟩
 refine a1d gq (a0d Y Y Y ?_)
 obtain ⟨v4, J, hm⟩ := Yb hm
 refine a2g 5 (fun a w' => g3 = w' ∧ Has 68 a [(3, .slice g o p), (62, .bool v4)]) ?_ ?_
 rintro a hq ⟨rfl, gr⟩
 refine a1d gr (a0d Y Y Y ?_)
 obtain ⟨v5, L, hm⟩ := Yb hm
 refine a2g 4 (fun a w' => g3 = w' ∧ Has 68 a [(67, .bool v5)]) ?_ ?_
 rintro a hr ⟨rfl, gs⟩
 refine a1d gs (a0b Y Y Y (a0e (a0c (a1c (a1n Y Y ?_)))))
 obtain rfl := Yo hm
 exact ⟨_, _, _, Y, gc.Yp [] Y Y, Y, Y⟩
 clear hm
 rcases a0h L with ⟨gd, L⟩ | ⟨gd, L⟩
 refine a1k 63 Y gd (a0d Y Y Y (a1y g6.len u31 Y Y Y (a0u Y Y Y Y Y (a0s Y Y Y Y (a0e (a0k (fun a ha => ?_)))))))
 cases L
 exact ⟨Y, ha.cut (l := [67]) Y⟩
 refine a1k 63 Y gd (a0y Y (by decide) Y (a0y Y (by decide) Y (a0y Y (by decide) Y (a0m Y Y Y Y (a0e (a0k (fun a ha => ?_)))))))
 cases L
 exact ⟨Y, ha.cut (l := [67]) Y⟩
 clear hm
 rcases a0h J with ⟨ge, J⟩ | ⟨ge, J⟩
 refine a1k 57 Y ge (a0f fa30_0 Y Y Y (a0n ag28 Y Y gc Y (i := 0) Y Y (a1y gx.len u28 Y Y Y (a0u Y Y Y Y Y (a0s Y Y Y Y (a0e (a0k (fun a ha => ?_))))))))
 cases J
 exact ⟨Y, ha.cut (l := [3, 62]) Y⟩
 refine a1k 57 Y ge (a0y Y (by decide) Y (a0y Y (by decide) Y (a0y Y (by decide) Y (a0y Y (by decide) Y (a0m Y Y Y Y (a0e (a0k (fun a ha => ?_))))))))
 cases J
 exact ⟨Y, ha.cut (l := [3, 62]) Y⟩
 clear hm
 rcases a0h I with ⟨gf, I⟩ | ⟨gf, I⟩
 refine a1k 52 Y gf (a0d Y Y Y (a1y g5.len u27 Y Y Y (a0u Y Y Y Y Y (a0s Y Y Y Y (a0e (a0k (fun a ha => ?_)))))))
 cases I
 exact ⟨Y, ha.cut (l := [3, 6, 56]) Y⟩
 refine a1k 52 Y gf (a0y Y (by decide) Y (a0y Y (by decide) Y (a0y Y (by decide) Y (a0m Y Y Y Y (a0e (a0k (fun a ha => ?_)))))))
 cases I
 exact ⟨Y, ha.cut (l := [3, 6, 56]) Y⟩
 clear hm
 rcases a0h H with ⟨gg, H⟩ | ⟨gg, H⟩
 refine a1k 46 Y gg (a0f fa26_0 Y Y Y (a0n ag9 Y Y gc Y (i := 1) Y Y (b0k u9 Y Y Y (a0u Y Y Y Y Y (a0s Y Y Y Y (a0e (a0k (fun a ha => ?_))))))))
 cases H
 exact ⟨Y, ha.cut (l := [1, 3, 6, 51]) Y⟩
 refine a1k 46 Y gg (a0y Y (by decide) Y (a0y Y (by decide) Y (a0y Y (by decide) Y (a0y Y (by decide) Y (a0m Y Y Y Y (a0e (a0k (fun a ha => ?_))))))))
 cases H
 exact ⟨Y, ha.cut (l := [1, 3, 6, 51]) Y⟩
 clear hm hkont1; intro hk1 mx1 K ihx1
 rintro i2 a gt hm ⟨g9, gh, g4, gu⟩
 simp only [b0h] at hm
 refine a1l gu (a0g (a0g (a0a (a0d Y Y Y (a0d Y Y Y (a1y g6.len u31 Y Y Y (a0u Y Y Y Y Y (a0d Y Y Y ?_))))))))
 obtain ⟨v6, M, hm⟩ := Yb hm
 refine a2g 3 (fun a w' => gt = w' ∧ Has 68 a [(1, .slice q t k), (3, .slice g o p), (4, .pointer (some ⟨b1, 0, none⟩)), (6, .pointer (some ⟨b2, 0, none⟩)), (10, .int .i64 i2), (34, .bool v6)]) ?_ ?_
 rintro a he ⟨rfl, gv⟩
 refine a1d gv (a0e (a0c ?_))
 rcases a0h hm with ⟨Q, hm⟩ | ⟨Q, hm⟩
 refine a0r 34 Y Q (a0x Y (a1b (a0c (a0g (a1j (a0g (a0a (a0d Y Y Y (a0d Y Y Y ?_)))))))))
 obtain ⟨ex1, h1, hm⟩ := Yb hm
 refine a2r (r := rp_Frac) u31 sz37 Y Y Y Y (g6.mono gh) h1 ?_
 intro b3 o1 x h2 h3
 obtain ⟨ht, hu, hv, hw, hx, hy, h4, h5, h6⟩ := h3
 subst h4
 refine a3c ag37 sz37 Y Y g4 h2 Y Y ?_
 obtain ⟨v7, h7, hm⟩ := Yb hm
 refine a0i ent18 Y Y Y Y g4 (c4p _ _ _ _ h7 g4.sat h5 h6) ?_
 rintro _ hz _ hf h8 gl ⟨rfl, rfl⟩
 refine a4c Y Y Y (a0e (a0c ?_))
 rcases a0h hm with ⟨R, hm⟩ | ⟨R, hm⟩
 refine a0r 42 Y R (a0x Y (a0g (a0a (a0b Y Y Y (a0e (a0c (a1c (a0t (a0j (a0j (a0t (a0j (a1n Y Y ?_)))))))))))))
 obtain rfl := Yo hm
 exact ⟨_, _, _, Y, gl.Yp [] Y Y, Y, Y⟩
 refine a0r 42 Y R (a0p Y (a1b (a1o (a0c (a0a (a0d Y Y Y (a0u Y Y Y Y Y (a0b Y Y Y (a0e (a0k (fun a ha => ihx1 (iadd .i64 i2 1) a _ hm ?_)))))))))))
 exact ⟨_, (gh.trans h8), gl.Yp [0, 1] Y Y, ha.cut (l := [1, 3, 4, 6, 10]) Y⟩
 refine a0r 34 Y Q (a0p Y (a3p (a0w (a0w (fun a ha => hk1 () a _ hm ?_)))))
 exact ⟨_, gh, g4.Yp [0, 1] Y Y, ha.cut (l := [1, 3, 4, 6]) Y⟩
 clear hm
 rcases a0h M with ⟨T, M⟩ | ⟨T, M⟩
 refine a1k 31 Y T (a0d Y Y Y (a0u Y Y Y Y Y (a0s Y Y Y Y (a0e (a0k (fun a ha => ?_))))))
 cases M
 exact ⟨Y, ha.cut (l := [1, 3, 4, 6, 10, 34]) Y⟩
 refine a1k 31 Y T (a0y Y (by decide) Y (a0y Y (by decide) Y (a0m Y Y Y Y (a0e (a0k (fun a ha => ?_))))))
 cases M
 exact ⟨Y, ha.cut (l := [1, 3, 4, 6, 10, 34]) Y⟩
 clear hm hkont2; intro hk2 mx2 K ihx2
 rintro i1 a hg hm ⟨rfl, gj⟩
 simp only [b0g] at hm
 refine a1l gj (a0g (a0g (a0a (a0d Y Y Y (a0d Y Y Y (a1y g5.len u27 Y Y Y (a0u Y Y Y Y Y (a0d Y Y Y ?_))))))))
 obtain ⟨v8, u, hm⟩ := Yb hm
 refine a2g 3 (fun a w' => g7 = w' ∧ Has 68 a [(1, .slice q t k), (3, .slice g o p), (4, .pointer (some ⟨b1, 0, none⟩)), (6, .pointer (some ⟨b2, 0, none⟩)), (9, .int .i64 i1), (18, .bool v8)]) ?_ ?_
 rintro a hh ⟨rfl, gk⟩
 refine a1d gk (a0e (a0c ?_))
 rcases a0h hm with ⟨U, hm⟩ | ⟨U, hm⟩
 refine a0r 18 Y U (a0x Y (a1b (a0c (a0g (a1j (a0g (a0a (a0d Y Y Y (a0d Y Y Y ?_)))))))))
 obtain ⟨ex2, h9, hm⟩ := Yb hm
 refine a2r (r := Rp.str) u27 sz9 Y Y Y Y g5 h9 ?_
 intro b4 o2 k hb hc
 have hd : k = [vs ex2] := hc
 subst hd
 refine a2j (j := 0) ag9 Y Y g8 hb Y Y (b0k u9 Y Y Y (a0u Y Y Y Y Y (a0e (a0c ?_))))
 rcases a0h hm with ⟨V, hm⟩ | ⟨V, hm⟩
 refine a0r 26 Y V (a0x Y (a0g (a0a (a0b Y Y Y (a0e (a0c (a1c (a0t (a0j (a0j (a0t (a0j (a1n Y Y ?_)))))))))))))
 obtain rfl := Yo hm
 exact ⟨_, _, _, Y, g8.Yp [] Y Y, Y, Y⟩
 refine a0r 26 Y V (a0p Y (a1b (a1o (a0c (a0a (a0d Y Y Y (a0u Y Y Y Y Y (a0b Y Y Y (a0e (a0k (fun a ha => ihx2 (iadd .i64 i1 1) a _ hm ?_)))))))))))
 exact ⟨Y, ha.cut (l := [1, 3, 4, 6, 9]) Y⟩
 refine a0r 18 Y U (a0p Y (a3p (a0w (a0w (fun a ha => hk2 () a _ hm ?_)))))
 exact ⟨Y, ha.cut (l := [1, 3, 4, 6]) Y⟩
 clear hm
 rcases a0h u with ⟨Z, u⟩ | ⟨Z, u⟩
 refine a1k 15 Y Z (a0d Y Y Y (a0u Y Y Y Y Y (a0s Y Y Y Y (a0e (a0k (fun a ha => ?_))))))
 cases u
 exact ⟨Y, ha.cut (l := [1, 3, 4, 6, 9, 18]) Y⟩
 refine a1k 15 Y Z (a0y Y (by decide) Y (a0y Y (by decide) Y (a0m Y Y Y Y (a0e (a0k (fun a ha => ?_))))))
 cases u
 exact ⟨Y, ha.cut (l := [1, 3, 4, 6, 9, 18]) Y⟩
def a8a (_n : Nat) (op1 : Int) (args1 : (List Expr)) : Option Expr :=
 some (⟨op1, 0, [], args1⟩ : Expr)
theorem a1v (n : Nat) (op1 : Int) (args1 : (List Expr)) (r : Expr) (hm : a8a n op1 args1 = some r) {w : World} {F : Frz} (hs : Sat F w) {g : Option Addr} {j : Nat} {k : Nat} (m : SlR rp_Expr F g j k args1) :
  Calls Tryz.prog 15 #[.int .i64 op1, .slice g j k] w fun e w' => ∃ v F' O', e = .returned v ∧ HS F w [] F' O' w' ∧ (∃ (a0_3 : Option Addr) (n0_3 : Nat) (c0_3 : Nat), v = .agg #[.int .i64 r.Op, .int .i64 r.N, vs r.Name, .slice a0_3 n0_3 c0_3] ∧ O' = [] ∧ SlR rp_Expr F' a0_3 n0_3 c0_3 r.Args) := by
 unfold a8a at hm
 have h := HS.init hs
 refine a1a 8 Tryz.func15 Y Y Y (a0g (a0a (a1h ze24 Y Y Y h ?_)))
 intro b1 p o
 refine a0e (a0c (a0g (a0a (a0d Y Y Y (a0d Y Y Y (a1r (v := .agg #[.int .i64 op1, .int .i64 0, vs [], .slice g j k]) Y Y Y (fun _ => by kernel_rfl) (a0o sz24 Y o Y Y Y Y (i := 0) Y Y Y Y ?_)))))))
 intro q l
 refine a0e (a0c (a1c (a3h Y ag24 sz24 Y l Y (i := 0) Y ?_)))
 obtain rfl := Yo hm
 exact ⟨_, _, _, Y, l.Yp [] Y Y, g, j, k, Y, Y, m⟩
def a9e (_n : Nat) (ax1 : Expr) (b1 : Expr) : Option (List Expr) :=
 some [ax1, b1]
theorem a3a (n : Nat) (ax1 : Expr) (b1 : Expr) (r : (List Expr)) (hm : a9e n ax1 b1 = some r) {w : World} {F : Frz} (hs : Sat F w) {g j : Option Addr} {k l m o : Nat} (s : SlR rp_Expr F g k l ax1.Args) (t : SlR rp_Expr F j m o b1.Args) :
  Calls Tryz.prog 16 #[.agg #[.int .i64 ax1.Op, .int .i64 ax1.N, vs ax1.Name, .slice g k l], .agg #[.int .i64 b1.Op, .int .i64 b1.N, vs b1.Name, .slice j m o]] w fun e w' => ∃ v F' O', e = .returned v ∧ HS F w [] F' O' w' ∧ (∃ (a0_0 : Option Addr) (n0_0 : Nat) (c0_0 : Nat) (xs0_0 : List Value), v = .slice a0_0 n0_0 c0_0 ∧ O' = [.row 24 4 a0_0 n0_0 c0_0 xs0_0] ∧ RowN rp_Expr F' n0_0 xs0_0 r) := by
 unfold a9e at hm
 have h := HS.init hs
 refine a1a 8 Tryz.func16 Y Y Y (a0g (a0a (a2z Y Y Y Y h ?_)))
 intro b2 y u
 refine a2z Y Y Y Y u ?_
 intro b3 z p
 refine a0b Y Y Y (a0e (a0c (a0g (a0a (a0q ag24 sz24 Y Y p Y (i := 1) Y Y (a0q ag24 sz24 Y Y p Y (i := 0) Y Y (a1f (e := 24) (cs := [.int .i64 ax1.Op, .int .i64 ax1.N, vs ax1.Name, .slice g k l, .int .i64 b1.Op, .int .i64 b1.N, vs b1.Name, .slice j m o]) (q := 4) Y Y p Y (fun _ => by kernel_rfl) Y Y ?_)))))))
 intro b4 G x
 refine a0b Y Y Y (a0e (a0c (a1c (a1n Y Y ?_))))
 obtain rfl := Yo hm
 exact ⟨_, _, _, Y, x.Yp [0] Y Y, (some ⟨b4, 0, none⟩), 2, 2, [.int .i64 ax1.Op, .int .i64 ax1.N, vs ax1.Name, .slice g k l, .int .i64 b1.Op, .int .i64 b1.N, vs b1.Name, .slice j m o], Y, Y, ((show RowN rp_Expr F 2 [.int .i64 ax1.Op, .int .i64 ax1.N, vs ax1.Name, .slice g k l, .int .i64 b1.Op, .int .i64 b1.N, vs b1.Name, .slice j m o] [ax1, b1] from ⟨Y, ⟨_, _, Y, (expr_iff.2 ⟨g, k, l, Y, s⟩), ⟨_, _, Y, (expr_iff.2 ⟨j, m, o, Y, t⟩), (Y : RowR rp_Expr _ [] [])⟩⟩⟩))⟩
def a7r (_n : Nat) (nx1 : Int) : Option Expr :=
 some (⟨0, nx1, [], []⟩ : Expr)
theorem a3e (n : Nat) (nx1 : Int) (r : Expr) (hm : a7r n nx1 = some r) {w : World} {F : Frz} (hs : Sat F w)  :
  Calls Tryz.prog 17 #[.int .i64 nx1] w fun e w' => ∃ v F' O', e = .returned v ∧ HS F w [] F' O' w' ∧ (∃ (a0_3 : Option Addr) (n0_3 : Nat) (c0_3 : Nat), v = .agg #[.int .i64 r.Op, .int .i64 r.N, vs r.Name, .slice a0_3 n0_3 c0_3] ∧ O' = [] ∧ SlR rp_Expr F' a0_3 n0_3 c0_3 r.Args) := by
 unfold a7r at hm
 have h := HS.init hs
 refine a1a 5 Tryz.func17 Y Y Y (a0g (a0a (a1h ze24 Y Y Y h ?_)))
 intro b1 k j
 refine a0e (a0c (a0g (a0a (a0d Y Y Y (a1r (v := .agg #[.int .i64 0, .int .i64 nx1, vs [], .slice none 0 0]) Y Y Y (fun _ => by kernel_rfl) (a0o sz24 Y j Y Y Y Y (i := 0) Y Y Y Y ?_))))))
 intro l g
 refine a0e (a0c (a1c (a3h Y ag24 sz24 Y g Y (i := 0) Y ?_)))
 obtain rfl := Yo hm
 exact ⟨_, _, _, Y, g.Yp [] Y Y, none, 0, 0, Y, Y, SlR.nil _ _⟩
def a9v (n : Nat) (x1 : Expr) (weights1 : (List Frac)) : Option (Frac × Int) :=
 (a7k n (⟨[97], x1, (-1)⟩ : Tariff) [[112, 97, 112, 101, 114], [103, 108, 97, 115, 115]] (⟨[4, 0], 3, 1⟩ : Facts) weights1).bind fun v1 =>
 some (v1.1, v1.2)
theorem a5d (n : Nat) (x1 : Expr) (weights1 : (List Frac)) (r : (Frac × Int)) (hm : a9v n x1 weights1 = some r) {w : World} {F : Frz} (hs : Sat F w) {g o : Option Addr} {j k p s : Nat} (K : SlR rp_Expr F g j k x1.Args) (L : SlR rp_Frac F o p s weights1) :
  Calls Tryz.prog 14 #[.agg #[.int .i64 x1.Op, .int .i64 x1.N, vs x1.Name, .slice g j k], .slice o p s] w fun e w' => ∃ v F' O', e = .returned v ∧ HS F w [] F' O' w' ∧ (∃ (a0_1 : Option Addr) (n0_1 : Nat) (c0_1 : Nat) (a0_3 : Option Addr) (n0_3 : Nat) (c0_3 : Nat), v = .tuple #[.agg #[.int .i64 r.1.P.Sign, .slice a0_1 n0_1 c0_1, .int .i64 r.1.Q.Sign, .slice a0_3 n0_3 c0_3], .int .i64 r.2] ∧ O' = [] ∧ SlR (Rp.int .i64) F' a0_1 n0_1 c0_1 r.1.P.Digits ∧ SlR (Rp.int .i64) F' a0_3 n0_3 c0_3 r.1.Q.Digits) := by
 unfold a9v at hm
 have h := HS.init hs
 refine a1a 15 Tryz.func14 Y Y Y (a0g (a0a (a2z Y Y Y Y h ?_)))
 intro b1 g2 M
 refine a1h ze37 Y Y Y M ?_
 intro b2 g3 t
 refine a0b Y Y Y (a0e (a0c (a0g (a0a (a0q ag24 sz24 Y Y t Y (i := 1) Y Y (a1r (v := .agg #[vs [97], .int .i64 x1.Op, .int .i64 x1.N, vs x1.Name, .slice g j k, .int .i64 (-1)]) Y Y Y (fun _ => by kernel_rfl) (a1f (e := 9) (cs := [vs [112, 97, 112, 101, 114], vs [103, 108, 97, 115, 115]]) (q := 1) Y Y t Y (fun _ => by kernel_rfl) Y Y ?_)))))))
 intro b3 g4 R
 refine a1f (e := 3) (cs := [.int .i64 4, .int .i64 0]) (q := 1) Y Y R Y (fun _ => by kernel_rfl) Y Y ?_
 intro b4 g5 T
 obtain ⟨g6, l, U, hsx1⟩ := a1g T (i := 0) Y ((show RowN (Rp.int .i64) F 2 [.int .i64 4, .int .i64 0] [4, 0] from ⟨Y, ⟨_, _, Y, Y, ⟨_, _, Y, Y, (Y : RowR (Rp.int .i64) _ [] [])⟩⟩⟩))
 refine a1r (v := .agg #[.slice (some ⟨b4, 0, none⟩) 2 2, .int .i64 3, .int .i64 1]) Y Y Y (fun _ => by kernel_rfl) (a0d Y Y Y ?_)
 obtain ⟨g7, m, u, hsx2⟩ := a1g U (i := 0) Y ((show RowN Rp.str F 2 [vs [112, 97, 112, 101, 114], vs [103, 108, 97, 115, 115]] [[112, 97, 112, 101, 114], [103, 108, 97, 115, 115]] from ⟨Y, ⟨_, _, Y, Y, ⟨_, _, Y, Y, (Y : RowR Rp.str _ [] [])⟩⟩⟩).mono l)
 obtain ⟨v1, V, hm⟩ := Yb hm
 refine a0i ent6 Y Y Y Y u (b1z _ _ _ _ _ _ V u.sat ((K.mono l).mono m) hsx2 (hsx1.mono m) ((L.mono l).mono m)) ?_
 rintro _ g8 _ g9 ga Z ⟨x, y, z, G, H, I, rfl, rfl, g0, g1⟩
 refine a0l Y Y Y Y (a0l Y Y Y Y (a0o sz37 Y Z Y Y Y Y (i := 0) Y Y Y Y ?_))
 intro gb J
 refine a0b Y Y Y (a0e (a0c (a1c (a1q (vl := [.agg #[.int .i64 v1.1.P.Sign, .slice x y z, .int .i64 v1.1.Q.Sign, .slice G H I], .int .i64 v1.2]) Y ⟨a2h ag37 sz37 Y J Y (i := 0) Y, a1p Y, trivial⟩ (by simp) ?_))))
 obtain rfl := Yo hm
 exact ⟨_, _, _, Y, J.Yp [] Y Y, x, y, z, G, H, I, Y, Y, g0, g1⟩
end Go.Proofs.YtknpjecpcmajiaaGreatDoor.M

