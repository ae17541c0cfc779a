/- Several texts in one, for FeeTurns.card: what the theorem leans on. -/
import Derived.Test.YtknpjecpcmajiaaGreatDoorRows
import Derived.KernelRfl
import Derived.Test.YtknpjecpcmajiaaGreatDoorPk4
set_option maxHeartbeats 1000000
set_option maxRecDepth 1000000
namespace Go.Proofs.YtknpjecpcmajiaaGreatDoor.M
open Go Go.RowKit Rt
structure reader where
 l : (List Token)
 at_ : Int
 e : Int
 deriving DecidableEq, Inhabited
theorem fa69_2 : a4v Tryz.prog 69 2 2 := fun _ _ _ => by kernel_rfl
theorem ag38 : a9h Tryz.prog 38 false := fun _ => by kernel_rfl
theorem fa69_0 : a4v Tryz.prog 69 0 0 := fun _ _ _ => by kernel_rfl
theorem ag64 : a9h Tryz.prog 64 false := fun _ => by kernel_rfl
theorem fa69_1 : a4v Tryz.prog 69 1 1 := fun _ _ _ => by kernel_rfl
theorem u64 : Tryz.prog.underlying 64 = some (.slice 72) := by kernel_rfl
def a2v (_n : Nat) (rx1 : reader) : Option (reader × Token) :=
 (bif rx1.e != 0 then
  some true
 else
  some (rx1.at_ == (rx1.l.length : Int))).bind fun v1 =>
 bif v1 then
  some (rx1, (⟨4, [], 0, 0⟩ : Token))
 else
  (ix rx1.l rx1.at_).bind fun ex1 =>
  some (rx1, ex1)
theorem a5x (n : Nat) (rx1 : reader) (r : (reader × Token)) (hm : a2v n rx1 = some r) {w : World} {F : Frz} (hs : Sat F w) {j : Option Addr} {k : Nat} {g : Nat} {brx1 : Nat} (o : SlR rp_Token F j k g rx1.l) (hbrx1 : (OE.box brx1 69 [.slice j k g, .int .i64 rx1.at_, .int .i64 rx1.e]).ok w) (hfrx1 : F brx1 = none) :
  Calls Tryz.prog 61 #[.pointer (some ⟨brx1, 0, none⟩)] w fun e w' => ∃ v F' cs' O', e = .returned v ∧ HS F w [brx1] F' (.box brx1 69 cs' :: O') w' ∧ (∃ (al_0 : Option Addr) (nl_0 : Nat) (cl_0 : Nat), v = .agg #[.int .i64 r.2.Kind, vs r.2.Text, .int .i64 r.2.N, .int .i64 r.2.Pos] ∧ cs' = [.slice al_0 nl_0 cl_0, .int .i64 r.1.at_, .int .i64 r.1.e] ∧ O' = [] ∧ SlR rp_Token F' al_0 nl_0 cl_0 r.1.l) := by
 unfold a2v at hm
 have h := HS.lend hs hbrx1 hfrx1
 refine a1a 31 Tryz.func61 Y Y Y (a0g (a0a (a1h ze72 Y Y Y h ?_)))
 intro b1 Q H
 refine a0e (a0c (a0g (a0g (a3n (by kernel_rfl) (by kernel_rfl) H (a1e Y Y Y Y (fun _ _ _ _ => a0d Y Y Y Yn) (d0o Y Y Y (a1e Y Y Y Y (fun _ _ _ _ => a0f fa69_2 Y Y Y Yn) (a1e Y Y Y Y (fun _ _ _ hq => a0n ag38 Y Y hq Y (i := 1) Y Y Yn) (a1e Y Y Y Y (fun _ _ _ _ => a0u Y Y Y Y Y Yn) ?_)))))))))
 refine a1e Y Y Y Y (fun _ _ _ _ => a0d Y Y Y Yn) ?_
 obtain ⟨v1, m, hm⟩ := Yb hm
 refine c4x 11 (fun a => Has 31 a [(0, .pointer (some ⟨brx1, 0, none⟩)), (2, .pointer (some ⟨b1, 0, none⟩)), (19, .bool v1)]) ?_ ?_
 intro a G
 refine b3m G (b0z ?_)
 rintro R ⟨I, p, x⟩
 refine a0c ?_
 rcases a0h hm with ⟨q, hm⟩ | ⟨q, hm⟩
 refine a0r 19 Y q (a0x Y (a0g (a0a (a1r (v := .agg #[.int .i64 4, vs [], .int .i64 0, .int .i64 0]) Y Y Y (fun _ => by kernel_rfl) (a0o sz72 Y x Y Y Y Y (i := 0) Y Y Y Y ?_)))))
 intro T y
 refine a0e (a0c (a1c (a0j (a3h Y ag72 sz72 Y y Y (i := 0) Y ?_))))
 obtain rfl := Yo hm
 exact ⟨_, _, _, _, Y, y.Yp [1] Y Y, j, k, g, Y, Y, Y, (o.mono p)⟩
 refine a0r 19 Y q (a0p Y (a1b (a0c (a0g (a2f (SH I [.box brx1 69 [.slice j k g, .int .i64 rx1.at_, .int .i64 rx1.e]]) 11 Y (by kernel_rfl) x ?_)))))
 intro U z
 have S0 := z.Ys Yf [1] Y Y
 refine d_tk 0 Y (by kernel_rfl) Y Y Y Y S0 (fun _ _ _ _ _ => a0d Y Y Y Yn) (c3f 1 Y (by kernel_rfl) (by kernel_rfl) (by kernel_rfl) Y Y Y S0 (d_tk 2 Y (by kernel_rfl) Y Y Y Y S0 (fun _ _ _ _ _ => a0f fa69_0 Y Y Y Yn) (d_tk 3 Y (by kernel_rfl) Y Y Y Y S0 (fun _ _ _ _ hq => a0n ag64 Y Y hq Y (i := 0) Y Y Yn) (d_tk 4 Y (by kernel_rfl) Y Y Y Y S0 (fun _ _ _ _ _ => a0d Y Y Y Yn) (c3f 5 Y (by kernel_rfl) (by kernel_rfl) (by kernel_rfl) Y Y Y S0 (d_tk 6 Y (by kernel_rfl) Y Y Y Y S0 (fun _ _ _ _ _ => a0f fa69_1 Y Y Y Yn) ?_))))))
 refine d_tk 7 Y (by kernel_rfl) Y Y Y Y S0 (fun _ _ _ _ hq => a0n ag3 Y Y hq Y (i := 0) Y Y Yn) ?_
 obtain ⟨ex1, J, hm⟩ := Yb hm
 obtain ⟨b2, o1, g, K, L, u⟩ := a2k (P := Tryz.prog) (r := rp_Token) u64 sz72 (o.mono p) J
 have M : g = [.int .i64 ex1.Kind, vs ex1.Text, .int .i64 ex1.N, .int .i64 ex1.Pos] := L
 subst M
 refine b1u 8 Y (by kernel_rfl) (by kernel_rfl) (by kernel_rfl) Y Y Y Y u S0 (d_tk 9 Y (by kernel_rfl) Y Y Y Y S0 (fun _ _ _ hleq hq => a3c ag72 sz72 Y Y hq (K.mono hleq) Y Y Yn) (a0z 10 Y (by kernel_rfl) (a0o sz72 Y z Y Y Y Y (i := 0) Y Y Y Y ?_)))
 intro V s
 refine a0v (s.Ys Yf [1] Y Y) (a2u (by kernel_rfl) (a0c (a1c (a3h Y ag72 sz72 Y s Y (i := 0) Y ?_))))
 obtain rfl := Yo hm
 exact ⟨_, _, _, _, Y, s.Yp [1] Y Y, j, k, g, Y, Y, Y, (o.mono p)⟩
 clear hm
 rcases a0h m with ⟨t, m⟩ | ⟨t, m⟩
 refine b6i 8 Y t (a3q Y Y Y (a3q Y Y Y (a3q Y Y Y (a3q Y Y Y (a3q Y Y Y (a3q Y Y Y (a3q Y Y Y (a3q Y Y Y (a3q Y Y Y (a3q Y Y Y (a1e Y Y Y Y (fun _ _ _ _ => a0s Y Y Y Y Yn) (b6a (fun a ha => ?_)))))))))))))
 cases m
 exact ha.cut (l := [0, 2, 19]) Y
 refine b6i 8 Y t (a1e Y Y Y Y (fun _ _ _ _ => a0d Y Y Y Yn) (d0o Y Y Y (a1e Y Y Y Y (fun _ _ _ _ => a0f fa69_1 Y Y Y Yn) (a1e Y Y Y Y (fun _ _ _ hq => a0n ag3 Y Y hq Y (i := 1) Y Y Yn) (a1e Y Y Y Y (fun _ _ _ _ => a0d Y Y Y Yn) (d0o Y Y Y ?_))))))
 refine a1e Y Y Y Y (fun _ _ _ _ => a0f fa69_0 Y Y Y Yn) (a1e Y Y Y Y (fun _ _ _ hq => a0n ag64 Y Y hq Y (i := 1) Y Y Yn) (a1e Y Y Y Y (fun _ _ _ _ => a1y o.len u64 Y Y Y Yn) (a1e Y Y Y Y (fun _ _ _ _ => a0u Y Y Y Y Y Yn) (a1e Y Y Y Y (fun _ _ _ _ => a0m Y Y Y Y Yn) (b6a (fun a ha => ?_))))))
 cases m
 exact ha.cut (l := [0, 2, 19]) Y
theorem sz38 : a4i Tryz.prog 38 1 := fun _ => by kernel_rfl
def a2q (_n : Nat) (rx1 : reader) (ex1 : Int) : Option reader :=
 bif rx1.e == 0 then
  some (⟨rx1.l, rx1.at_, ex1⟩ : reader)
 else
  some rx1
theorem a3z (n : Nat) (rx1 : reader) (ex1 : Int) (r : reader) (hm : a2q n rx1 ex1 = some r) {w : World} {F : Frz} (hs : Sat F w) {g : Option Addr} {j : Nat} {k : Nat} {brx1 : Nat} (o : SlR rp_Token F g j k rx1.l) (hbrx1 : (OE.box brx1 69 [.slice g j k, .int .i64 rx1.at_, .int .i64 rx1.e]).ok w) (hfrx1 : F brx1 = none) :
  Calls Tryz.prog 33 #[.pointer (some ⟨brx1, 0, none⟩), .int .i64 ex1] w fun e w' => ∃ v F' cs' O', e = .returned v ∧ HS F w [brx1] F' (.box brx1 69 cs' :: O') w' ∧ (∃ (al_0 : Option Addr) (nl_0 : Nat) (cl_0 : Nat), v = .tuple #[] ∧ cs' = [.slice al_0 nl_0 cl_0, .int .i64 r.at_, .int .i64 r.e] ∧ O' = [] ∧ SlR rp_Token F' al_0 nl_0 cl_0 r.l) := by
 unfold a2q at hm
 have h := HS.lend hs hbrx1 hfrx1
 refine a1a 13 Tryz.func33 Y Y Y (a0g (a0a (a0d Y Y Y (a9p Y Y Y (a0f fa69_2 Y Y Y (a0n ag38 Y Y h Y (i := 0) Y Y (a0u Y Y Y Y Y (a0e (a0c ?_)))))))))
 rcases a0h hm with ⟨m, hm⟩ | ⟨m, hm⟩
 refine a0r 8 Y m (a0x Y (a0a (a0d Y Y Y (a0d Y Y Y (a9p Y Y Y (a0f fa69_2 Y Y Y (a0o sz38 Y h Y Y Y Y (i := 0) Y Y Y Y ?_)))))))
 intro q p
 refine a0e (c8y Y ?_)
 obtain rfl := Yo hm
 exact ⟨_, _, _, _, Y, p.Yp [0] Y Y, g, j, k, Y, Y, Y, o⟩
 refine a0r 8 Y m (a0p Y (a1b (c8y Y ?_)))
 obtain rfl := Yo hm
 exact ⟨_, _, _, _, Y, h.Yp [0] Y Y, g, j, k, Y, Y, Y, o⟩
theorem ent61 : Ent Tryz.prog 61 := fun _ _ => by kernel_rfl
theorem fa72_1 : a4v Tryz.prog 72 1 1 := fun _ _ _ => by kernel_rfl
theorem fa72_0 : a4v Tryz.prog 72 0 0 := fun _ _ _ => by kernel_rfl
def a5o (n : Nat) (rx1 : reader) (s2 : Bs) : Option (reader × Bool) :=
 (a2v n rx1).bind fun v1 =>
 (bif v1.2.Text == s2 then
  (bif v1.2.Kind == 0 then
   some true
  else
   some (v1.2.Kind == 3)).bind fun v3 =>
  some v3
 else
  some false).bind fun v2 =>
 some (v1.1, v2)
theorem b1r (n : Nat) (rx1 : reader) (s2 : Bs) (r : (reader × Bool)) (hm : a5o n rx1 s2 = some r) {w : World} {F : Frz} (hs : Sat F w) {p : Option Addr} {q : Nat} {s : Nat} {brx1 : Nat} (y : SlR rp_Token F p q s rx1.l) (hbrx1 : (OE.box brx1 69 [.slice p q s, .int .i64 rx1.at_, .int .i64 rx1.e]).ok w) (hfrx1 : F brx1 = none) :
  Calls Tryz.prog 31 #[.pointer (some ⟨brx1, 0, none⟩), vs s2] w fun e w' => ∃ v F' cs' O', e = .returned v ∧ HS F w [brx1] F' (.box brx1 69 cs' :: O') w' ∧ (∃ (al_0 : Option Addr) (nl_0 : Nat) (cl_0 : Nat), v = .bool r.2 ∧ cs' = [.slice al_0 nl_0 cl_0, .int .i64 r.1.at_, .int .i64 r.1.e] ∧ O' = [] ∧ SlR rp_Token F' al_0 nl_0 cl_0 r.1.l) := by
 unfold a5o at hm
 have h := HS.lend hs hbrx1 hfrx1
 refine a1a 22 Tryz.func31 Y Y Y (a0g (a0a (a0b Y Y Y (a0e (a0c (a0g (a0a (a0d Y Y Y ?_))))))))
 obtain ⟨v1, z, hm⟩ := Yb hm
 refine a2n ent61 Y Y Y Y h (i := 0) Y (a5x _ _ _ z h.sat y (h.get (i := 0) Y) (h.lendable (i := 0) Y)) ?_
 rintro _ M _ _ N Q G ⟨H, I, J, rfl, rfl, rfl, K⟩
 refine a1h ze72 Y Y Y G ?_
 intro b1 R L
 refine a0o sz72 Y L Y Y Y Y (i := 0) Y Y Y Y ?_
 intro t k
 refine a0e (a0c (a0g (a0a (a0f fa72_1 Y Y Y (a0n ag9 Y Y k Y (i := 0) Y Y (a0d Y Y Y (b4m Y Y Y Y Y (a0d Y Y Y ?_))))))))
 obtain ⟨v2, g, hm⟩ := Yb hm
 refine a2g 9 (fun a w' => t = w' ∧ Has 22 a [(21, .bool v2)]) ?_ ?_
 rintro a T ⟨rfl, u⟩
 refine a1d u (a0b Y Y Y (a0e (a0c (a1c (a1n Y Y ?_)))))
 obtain rfl := Yo hm
 exact ⟨_, _, _, _, Y, k.Yp [1] Y Y, H, I, J, Y, Y, Y, K⟩
 clear hm
 rcases a0h g with ⟨m, g⟩ | ⟨m, g⟩
 refine a1k 12 Y m (a0f fa72_0 Y Y Y (a0n ag3 Y Y k Y (i := 0) Y Y (a0u Y Y Y Y Y (a0d Y Y Y ?_))))
 obtain ⟨v3, j, g⟩ := Yb g
 refine a2g 4 (fun a w' => t = w' ∧ Has 22 a [(12, .bool true), (20, .bool v3)]) ?_ ?_
 rintro a U ⟨rfl, x⟩
 refine a1d x (a0s Y Y Y Y (a0e (a0k (fun a ha => ?_))))
 cases g
 exact ⟨Y, ha.cut (l := [21]) Y⟩
 clear g
 rcases a0h j with ⟨o, j⟩ | ⟨o, j⟩
 refine a1k 16 Y o (a0y Y (by decide) Y (a0y Y (by decide) Y (a0y Y (by decide) Y (a0s Y Y Y Y (a0e (a0k (fun a ha => ?_)))))))
 cases j
 exact ⟨Y, ha.cut (l := [12, 20]) Y⟩
 refine a1k 16 Y o (a0f fa72_0 Y Y Y (a0n ag3 Y Y k Y (i := 0) Y Y (a0u Y Y Y Y Y (a0m Y Y Y Y (a0e (a0k (fun a ha => ?_)))))))
 cases j
 exact ⟨Y, ha.cut (l := [12, 20]) Y⟩
 refine a1k 12 Y m (a0y Y (by decide) Y (a0y Y (by decide) Y (a0y Y (by decide) Y (a0y Y (by decide) Y (a0y Y (by decide) Y (a0y Y (by decide) Y (a0y Y (by decide) Y (a0y Y (by decide) Y (a0m Y Y Y Y (a0e (a0k (fun a ha => ?_))))))))))))
 cases g
 exact ⟨Y, ha.cut (l := [21]) Y⟩
theorem ent31 : Ent Tryz.prog 31 := fun _ _ => by kernel_rfl
def a2a (n : Nat) (rx1 : reader) (s2 : Bs) : Option (reader × Bool) :=
 (a5o n rx1 s2).bind fun v1 =>
 (bif v1.2 then
  some (iadd .i64 v1.1.at_ 1)
 else
  some v1.1.at_).bind fun f1 =>
 some ((⟨v1.1.l, f1, v1.1.e⟩ : reader), v1.2)
theorem a4l (n : Nat) (rx1 : reader) (s2 : Bs) (r : (reader × Bool)) (hm : a2a n rx1 s2 = some r) {w : World} {F : Frz} (hs : Sat F w) {o : Option Addr} {p : Nat} {q : Nat} {brx1 : Nat} (y : SlR rp_Token F o p q rx1.l) (hbrx1 : (OE.box brx1 69 [.slice o p q, .int .i64 rx1.at_, .int .i64 rx1.e]).ok w) (hfrx1 : F brx1 = none) :
  Calls Tryz.prog 34 #[.pointer (some ⟨brx1, 0, none⟩), vs s2] w fun e w' => ∃ v F' cs' O', e = .returned v ∧ HS F w [brx1] F' (.box brx1 69 cs' :: O') w' ∧ (∃ (al_0 : Option Addr) (nl_0 : Nat) (cl_0 : Nat), v = .bool r.2 ∧ cs' = [.slice al_0 nl_0 cl_0, .int .i64 r.1.at_, .int .i64 r.1.e] ∧ O' = [] ∧ SlR rp_Token F' al_0 nl_0 cl_0 r.1.l) := by
 unfold a2a at hm
 have h := HS.lend hs hbrx1 hfrx1
 refine a1a 18 Tryz.func34 Y Y Y (a0g (a0a (a0b Y Y Y (a0e (a0c (a0g (a0a (a0d Y Y Y (a0d Y Y Y ?_)))))))))
 obtain ⟨v1, z, hm⟩ := Yb hm
 refine a2n ent31 Y Y Y Y h (i := 0) Y (b1r _ _ _ _ z h.sat y (h.get (i := 0) Y) (h.lendable (i := 0) Y)) ?_
 rintro _ G _ _ L M j ⟨s, t, u, rfl, rfl, rfl, H⟩
 refine a0b Y Y Y (a0e (a0c (a0g (a0g (a0a (a0d Y Y Y (a0e (a0c ?_))))))))
 obtain ⟨f1, g, hm⟩ := Yb hm
 refine a6f (fun a w' => ∃ (k : Frz), Frz.le G k ∧ HS F w [brx1] k [.box brx1 69 [.slice s t u, .int .i64 f1, .int .i64 v1.1.e]] w' ∧ Has 18 a [(5, .bool v1.2)]) ?_ ?_
 rintro a N ⟨k, I, J, x⟩
 refine a1l x (a0g (a0a (a0d Y Y Y (a0b Y Y Y (a0e (a0c (a1c (a1n Y Y ?_))))))))
 obtain rfl := Yo hm
 exact ⟨_, _, _, _, Y, J.Yp [0] Y Y, s, t, u, Y, Y, Y, (H.mono I)⟩
 clear hm
 rcases a0h g with ⟨m, g⟩ | ⟨m, g⟩
 refine a0r 9 Y m (a0x Y (a0a (a0d Y Y Y (a9p Y Y Y (a0f fa69_1 Y Y Y (a0n ag3 Y Y j Y (i := 0) Y Y (a0u Y Y Y Y Y (a9p Y Y Y ?_))))))))
 refine a0f fa69_1 Y Y Y (a0o sz3 Y j Y Y Y Y (i := 0) Y Y Y Y ?_)
 intro Q K
 refine a0e (a0k (fun a ha => ?_))
 cases g
 exact ⟨_, Yf, K.Yp [0] Y Y, ha.cut (l := [5]) Y⟩
 refine a0r 9 Y m (a0p Y (a1b (a0k (fun a ha => ?_))))
 cases g
 exact ⟨_, Yf, j.Yp [0] Y Y, ha.cut (l := [5]) Y⟩
theorem ent34 : Ent Tryz.prog 34 := fun _ _ => by kernel_rfl
theorem ent33 : Ent Tryz.prog 33 := fun _ _ => by kernel_rfl
def a2w (n : Nat) (l1 : (List Bs)) (kont1 : (List Token) → Int → Int → Option reader) : Nat → Int → (List Token) → Int → Int → Option reader
 | 0, _, _, _, _ => none
 | mx1 + 1, i1, f1, f2, f3 =>
  bif decide (i1 < (l1.length : Int)) then
   (ix l1 i1).bind fun ex1 =>
   (a2a n (⟨f1, f2, f3⟩ : reader) ex1).bind fun v1 =>
   bif !v1.2 then
    (a2q n v1.1 12).bind fun v2 =>
    a2w n l1 kont1 mx1 (iadd .i64 i1 1) v2.l v2.at_ v2.e
   else
    a2w n l1 kont1 mx1 (iadd .i64 i1 1) v1.1.l v1.1.at_ v1.1.e
  else
   kont1 f1 f2 f3
theorem a6s (n : Nat) (l1 : (List Bs)) (kont1 : (List Token) → Int → Int → Option reader) (mx1 : Nat) (i1 : Int) (f1 : (List Token)) (f2 : Int) (f3 : Int) : a2w n l1 kont1 (mx1 + 1) i1 f1 f2 f3 =
  bif decide (i1 < (l1.length : Int)) then
   (ix l1 i1).bind fun ex1 =>
   (a2a n (⟨f1, f2, f3⟩ : reader) ex1).bind fun v1 =>
   bif !v1.2 then
    (a2q n v1.1 12).bind fun v2 =>
    a2w n l1 kont1 mx1 (iadd .i64 i1 1) v2.l v2.at_ v2.e
   else
    a2w n l1 kont1 mx1 (iadd .i64 i1 1) v1.1.l v1.1.at_ v1.1.e
  else
   kont1 f1 f2 f3 := rfl
def a1i (n : Nat) (rx1 : reader) (l1 : (List Bs)) : Option reader :=
 a2w n l1 (fun (f4 : (List Token)) (f5 : Int) (f6 : Int) =>
  some (⟨f4, f5, f6⟩ : reader)) n 0 rx1.l rx1.at_ rx1.e
theorem a1x (n : Nat) (rx1 : reader) (l1 : (List Bs)) (r : reader) (hm : a1i n rx1 l1 = some r) {w : World} {F : Frz} (hs : Sat F w) {J : Option Addr} {L : Nat} {k : Nat} {brx1 : Nat} {M : Option Addr} {N : Nat} {Q : Nat} (g4 : SlR rp_Token F J L k rx1.l) (hbrx1 : (OE.box brx1 69 [.slice J L k, .int .i64 rx1.at_, .int .i64 rx1.e]).ok w) (hfrx1 : F brx1 = none) (U : SlR Rp.str F M N Q l1) :
  Calls Tryz.prog 28 #[.pointer (some ⟨brx1, 0, none⟩), .slice M N Q] w fun e w' => ∃ v F' cs' O', e = .returned v ∧ HS F w [brx1] F' (.box brx1 69 cs' :: O') w' ∧ (∃ (al_0 : Option Addr) (nl_0 : Nat) (cl_0 : Nat), v = .tuple #[] ∧ cs' = [.slice al_0 nl_0 cl_0, .int .i64 r.at_, .int .i64 r.e] ∧ O' = [] ∧ SlR rp_Token F' al_0 nl_0 cl_0 r.l) := by
 unfold a1i at hm
 have h := HS.lend hs hbrx1 hfrx1
 refine a1a 19 Tryz.func28 Y Y Y (a0g (a0a (a0d Y Y Y (a1y U.len u27 Y Y Y (a0d Y Y Y (a0e (a0c (a1j ?_))))))))
 intro a g1
 obtain ⟨kont1, hkont1⟩ : ∃ kont1 : (List Token) → Int → Int → Option reader, kont1 = (fun (f4 : (List Token)) (f5 : Int) (f6 : Int) => some (⟨f4, f5, f6⟩ : reader)) := ⟨_, Y⟩
 replace hm : (fun m (s : Int × (List Token) × Int × Int) => a2w n l1 kont1 m s.1 s.2.1 s.2.2.1 s.2.2.2) n (0, rx1.l, rx1.at_, rx1.e) = some r := by rw [hkont1]; exact hm
 refine a5j (id := 0) (fun m (s : Int × (List Token) × Int × Int) => a2w n l1 kont1 m s.1 s.2.1 s.2.2.1 s.2.2.2) (fun (y : (List Token) × Int × Int) => kont1 y.1 y.2.1 y.2.2) r (fun (s : Int × (List Token) × Int × Int) a w' => ∃ (p : Frz) (q : Option Addr) (t : Nat) (u : Nat), Frz.le F p ∧ HS F w [brx1] p [.box brx1 69 [.slice q t u, .int .i64 s.2.2.1, .int .i64 s.2.2.2]] w' ∧ (SlR rp_Token p q t u s.2.1) ∧ Has 19 a [(0, .pointer (some ⟨brx1, 0, none⟩)), (6, .slice M N Q), (7, .int .i64 (l1.length : Int)), (8, .int .i64 s.1)]) (fun (y : (List Token) × Int × Int) a w' => ∃ (x : Frz) (z : Option Addr) (G : Nat) (H : Nat), Frz.le F x ∧ HS F w [brx1] x [.box brx1 69 [.slice z G H, .int .i64 y.2.1, .int .i64 y.2.2]] w' ∧ (SlR rp_Token x z G H y.1) ∧ Has 19 a []) (fun _ => Y) ?_ ?_ hm ⟨_, J, L, k, Yf, h.Yp [0] Y Y, g4, g1.cut (l := [0, 6, 7, 8]) Y⟩
 clear hm; rintro ⟨f4, f5, f6⟩ a gm hm ⟨x, z, G, H, gn, g5, g6, g2⟩
 rw [hkont1] at hm
 replace hm := hm
 refine a2c (e := .exit 0) g2 (a1m (c8y Y ?_))
 obtain rfl := Yo hm
 exact ⟨_, _, _, _, Y, g5.Yp [0] Y Y, z, G, H, Y, Y, Y, g6⟩
 clear hm hkont1; intro hk1 mx1 K ihx1
 rintro ⟨i1, f1, f2, f3⟩ a go hm ⟨p, q, t, u, I, g, V, g3⟩
 simp only [a6s] at hm
 refine a1l g3 (a0g (a0a (a0u Y Y Y Y Y (a0e (a0c (a0g ?_))))))
 rcases a0h hm with ⟨R, hm⟩ | ⟨R, hm⟩
 refine a0r 9 Y R (a0x Y (a1b (a0c (a0g (a1j (a0g (a0a ?_)))))))
 obtain ⟨ex1, g7, hm⟩ := Yb hm
 refine a2r (r := Rp.str) u27 sz9 Y Y Y Y (U.mono I) g7 ?_
 intro b1 o1 k g8 g9
 have ga : k = [vs ex1] := g9
 subst ga
 refine a2j (j := 0) ag9 Y Y g g8 Y Y (a0b Y Y Y (a0e (a0c (a0g (a0a (a0d Y Y Y (a0d Y Y Y ?_)))))))
 obtain ⟨v1, gb, hm⟩ := Yb hm
 refine a2n ent34 Y Y Y Y g (i := 0) Y (a4l _ _ _ _ gb g.sat V (g.get (i := 0) Y) (g.lendable (i := 0) Y)) ?_
 rintro _ gp _ _ gq Z o ⟨gc, gd, ge, rfl, rfl, rfl, g0⟩
 refine a4c Y Y Y (a0e (a0c ?_))
 rcases a0h hm with ⟨T, hm⟩ | ⟨T, hm⟩
 refine a0r 15 Y T (a0x Y (a0a (a0d Y Y Y ?_)))
 obtain ⟨v2, gf, hm⟩ := Yb hm
 refine a2n ent33 Y Y Y Y o (i := 0) Y (a3z _ _ _ _ gf o.sat g0 (o.get (i := 0) Y) (o.lendable (i := 0) Y)) ?_
 rintro _ gr _ _ gs gg gh ⟨gi, gj, gk, rfl, rfl, rfl, gl⟩
 refine a0e (a1o (a0c (a0a (a0u Y Y Y Y Y (a0d Y Y Y (a0e (a0k (fun a ha => ihx1 ((iadd .i64 i1 1), v2.l, v2.at_, v2.e) a _ hm ?_))))))))
 exact ⟨_, gi, gj, gk, ((I.trans Z).trans gg), gh.Yp [0] Y Y, gl, ha.cut (l := [0, 6, 7, 8]) Y⟩
 refine a0r 15 Y T (a0p Y (a1b (a1o (a0c (a0a (a0u Y Y Y Y Y (a0d Y Y Y (a0e (a0k (fun a ha => ihx1 ((iadd .i64 i1 1), v1.1.l, v1.1.at_, v1.1.e) a _ hm ?_))))))))))
 exact ⟨_, gc, gd, ge, (I.trans Z), o.Yp [0] Y Y, g0, ha.cut (l := [0, 6, 7, 8]) Y⟩
 refine a0r 9 Y R (a0p Y (a3p (a0w (a0w (fun a ha => hk1 (f1, f2, f3) a _ hm ?_)))))
 exact ⟨_, q, t, u, I, g.Yp [0] Y Y, V, ha.cut (l := []) Y⟩
def a4a (n : Nat) (rx1 : reader) (kind1 : Int) : Option (reader × Token) :=
 (a2v n rx1).bind fun v1 =>
 bif v1.2.Kind != kind1 then
  (a2q n v1.1 12).bind fun v2 =>
  some (v2, (⟨0, [], 0, 0⟩ : Token))
 else
  some ((⟨v1.1.l, iadd .i64 v1.1.at_ 1, v1.1.e⟩ : reader), v1.2)
theorem a8m (n : Nat) (rx1 : reader) (kind1 : Int) (r : (reader × Token)) (hm : a4a n rx1 kind1 = some r) {w : World} {F : Frz} (hs : Sat F w) {m : Option Addr} {o : Nat} {p : Nat} {brx1 : Nat} (x : SlR rp_Token F m o p rx1.l) (hbrx1 : (OE.box brx1 69 [.slice m o p, .int .i64 rx1.at_, .int .i64 rx1.e]).ok w) (hfrx1 : F brx1 = none) :
  Calls Tryz.prog 29 #[.pointer (some ⟨brx1, 0, none⟩), .int .i64 kind1] w fun e w' => ∃ v F' cs' O', e = .returned v ∧ HS F w [brx1] F' (.box brx1 69 cs' :: O') w' ∧ (∃ (al_0 : Option Addr) (nl_0 : Nat) (cl_0 : Nat), v = .agg #[.int .i64 r.2.Kind, vs r.2.Text, .int .i64 r.2.N, .int .i64 r.2.Pos] ∧ cs' = [.slice al_0 nl_0 cl_0, .int .i64 r.1.at_, .int .i64 r.1.e] ∧ O' = [] ∧ SlR rp_Token F' al_0 nl_0 cl_0 r.1.l) := by
 unfold a4a at hm
 have h := HS.lend hs hbrx1 hfrx1
 refine a1a 23 Tryz.func29 Y Y Y (a0g (a0a (a1h ze72 Y Y Y h ?_)))
 intro b1 U j
 refine a0e (a0c (a0g (a0a (a0d Y Y Y ?_))))
 obtain ⟨v1, y, hm⟩ := Yb hm
 refine a2n ent61 Y Y Y Y j (i := 1) Y (a5x _ _ _ y j.sat x (j.get (i := 1) Y) (j.lendable (i := 1) Y)) ?_
 rintro _ V _ _ Z g0 z ⟨G, H, I, rfl, rfl, rfl, q⟩
 refine a1h ze72 Y Y Y z ?_
 intro b2 g1 J
 refine a0o sz72 Y J Y Y Y Y (i := 0) Y Y Y Y ?_
 intro g2 g
 refine a0e (a0c (a0g (a0g (a0a (a0f fa72_0 Y Y Y (a0n ag3 Y Y g Y (i := 0) Y Y (a0d Y Y Y (a0u Y Y Y Y Y (a0e (a0c ?_))))))))))
 rcases a0h hm with ⟨k, hm⟩ | ⟨k, hm⟩
 refine a0r 11 Y k (a0x Y (a0g (a0a (a0d Y Y Y ?_))))
 obtain ⟨v2, K, hm⟩ := Yb hm
 refine a2n ent33 Y Y Y Y g (i := 2) Y (a3z _ _ _ _ K g.sat q (g.get (i := 2) Y) (g.lendable (i := 2) Y)) ?_
 rintro _ g3 _ _ g4 g5 L ⟨M, Q, R, rfl, rfl, rfl, T⟩
 refine a0e (a0c (a0g (a0a (a1r (v := .agg #[.int .i64 0, vs [], .int .i64 0, .int .i64 0]) Y Y Y (fun _ => by kernel_rfl) (a0o sz72 Y L Y Y Y Y (i := 1) Y Y Y Y ?_)))))
 intro g6 s
 refine a0e (a0c (a1c (a0j (a3h Y ag72 sz72 Y s Y (i := 1) Y ?_))))
 obtain rfl := Yo hm
 exact ⟨_, _, _, _, Y, s.Yp [2] Y Y, M, Q, R, Y, Y, Y, T⟩
 refine a0r 11 Y k (a0p Y (a1b (a0c (a0g (a0a (a0d Y Y Y (a9p Y Y Y (a0f fa69_1 Y Y Y (a0n ag3 Y Y g Y (i := 2) Y Y (a0u Y Y Y Y Y (a9p Y Y Y ?_)))))))))))
 refine a0f fa69_1 Y Y Y (a0o sz3 Y g Y Y Y Y (i := 2) Y Y Y Y ?_)
 intro g7 t
 refine a0e (a0c (a0g (a0a (a0q ag72 sz72 Y Y t Y (i := 0) Y Y (a0o sz72 Y t Y Y Y Y (i := 1) Y Y Y Y ?_)))))
 intro g8 u
 refine a0e (a0c (a1c (a3h Y ag72 sz72 Y u Y (i := 1) Y ?_)))
 obtain rfl := Yo hm
 exact ⟨_, _, _, _, Y, u.Yp [2] Y Y, G, H, I, Y, Y, Y, q⟩
theorem key9 : KeyIs Tryz.prog 9 (K := Bs) vs .string := KeyIs.str (by kernel_rfl)
theorem um97 : Tryz.prog.underlying 97 = some (.map 9 3) := by kernel_rfl
def a4h (_n : Nat)  : Option (List (Bs × Int)) :=
 some (mput (mput (mput (mput (mput (mput (mput (mput ([] : (List (Bs × Int))) [43] 5) [45] 6) [42] 7) [47] 8) [60] 12) [61] 13) [97, 110, 100] 15) [111, 114] 16)
theorem b1n (n : Nat)  (r : (List (Bs × Int))) (hm : a4h n  = some r) {w : World} {F : Frz} (hs : Sat F w)  :
  Calls Tryz.prog 57 #[] w fun e w' => ∃ v F' O', e = .returned v ∧ HS F w [] F' O' w' ∧ (∃ (b0_0 : Nat) (es0_0 : List MapEntry) (cl0_0 : Nat), v = .map (some b0_0) ∧ O' = [.mp b0_0 es0_0 cl0_0] ∧ MpR vs (Value.int .i64) es0_0 r) := by
 unfold a4h at hm
 have h := HS.init hs
 refine a1a 3 Tryz.func57 Y Y Y (a0g (a0a (a0b Y Y Y (a0e (a0c (a0g (a0a (c8v Y Y h ?_))))))))
 intro b1 L g
 refine b2a (l := ([] : (List (Bs × Int)))) (k := [43]) (v := 5) (i := 0) (.inl Y) key9 um97 Y g Y Y Y Y (show MpR vs (Value.int .i64) [] ([] : (List (Bs × Int))) from trivial) ?_
 intro M es1 cl1 j m
 refine b2a (l := (mput ([] : (List (Bs × Int))) [43] 5)) (k := [45]) (v := 6) (i := 0) (.inl Y) key9 um97 Y j Y Y Y Y m ?_
 intro N es2 cl2 o p
 refine b2a (l := (mput (mput ([] : (List (Bs × Int))) [43] 5) [45] 6)) (k := [42]) (v := 7) (i := 0) (.inl Y) key9 um97 Y o Y Y Y Y p ?_
 intro Q es3 cl3 q s
 refine b2a (l := (mput (mput (mput ([] : (List (Bs × Int))) [43] 5) [45] 6) [42] 7)) (k := [47]) (v := 8) (i := 0) (.inl Y) key9 um97 Y q Y Y Y Y s ?_
 intro R es4 cl4 t u
 refine b2a (l := (mput (mput (mput (mput ([] : (List (Bs × Int))) [43] 5) [45] 6) [42] 7) [47] 8)) (k := [60]) (v := 12) (i := 0) (.inl Y) key9 um97 Y t Y Y Y Y u ?_
 intro T es5 cl5 x y
 refine b2a (l := (mput (mput (mput (mput (mput ([] : (List (Bs × Int))) [43] 5) [45] 6) [42] 7) [47] 8) [60] 12)) (k := [61]) (v := 13) (i := 0) (.inl Y) key9 um97 Y x Y Y Y Y y ?_
 intro U es6 cl6 z G
 refine b2a (l := (mput (mput (mput (mput (mput (mput ([] : (List (Bs × Int))) [43] 5) [45] 6) [42] 7) [47] 8) [60] 12) [61] 13)) (k := [97, 110, 100]) (v := 15) (i := 0) (.inl Y) key9 um97 Y z Y Y Y Y G ?_
 intro V es7 cl7 H I
 refine b2a (l := (mput (mput (mput (mput (mput (mput (mput ([] : (List (Bs × Int))) [43] 5) [45] 6) [42] 7) [47] 8) [60] 12) [61] 13) [97, 110, 100] 15)) (k := [111, 114]) (v := 16) (i := 0) (.inl Y) key9 um97 Y H Y Y Y Y I ?_
 intro Z es8 cl8 J K
 refine a0d Y Y Y (a0b Y Y Y (a0e (a0c (a1c (a1n Y Y ?_)))))
 obtain rfl := Yo hm
 exact ⟨_, _, _, Y, J.Yp [0] Y Y, b1, es8, cl8, Y, Y, K⟩
theorem ent62 : Ent Tryz.prog 62 := fun _ _ => by kernel_rfl
theorem ent28 : Ent Tryz.prog 28 := fun _ _ => by kernel_rfl
theorem ent57 : Ent Tryz.prog 57 := fun _ _ => by kernel_rfl
theorem zv3 : ∀ w, (zeroValue 3).run Tryz.prog w = .ok ((Value.int .i64) 0) w := fun _ => by kernel_rfl
theorem fa72_2 : a4v Tryz.prog 72 2 2 := fun _ _ _ => by kernel_rfl
theorem ent30 : Ent Tryz.prog 30 := fun _ _ => by kernel_rfl
theorem ent29 : Ent Tryz.prog 29 := fun _ _ => by kernel_rfl
theorem ap22 : AppIs Tryz.prog 22 24 4 56 := AppIs.of (z := .agg #[.int .i64 0, .int .i64 0, vs [], .slice none 0 0]) (by kernel_rfl) (by kernel_rfl) rfl (by decide) (by decide)
theorem sz22 : a4i Tryz.prog 22 1 := fun _ => by kernel_rfl
mutual
def tariff_reader_expr : Nat → reader → Option (reader × Expr)
 | 0, _ => none
 | n + 1, rx1 =>
  (a2a n rx1 [110, 111, 116]).bind fun v1 =>
  bif v1.2 then
   (tariff_reader_atom n v1.1).bind fun v2 =>
   some (v2.1, (⟨14, 0, [], [v2.2]⟩ : Expr))
  else
   (a2a n v1.1 [105, 102]).bind fun v3 =>
   bif v3.2 then
    (tariff_reader_atom n v3.1).bind fun v4 =>
    (a1i n v4.1 [[116, 104, 101, 110]]).bind fun v5 =>
    (tariff_reader_atom n v5).bind fun v6 =>
    (a1i n v6.1 [[101, 108, 115, 101]]).bind fun v7 =>
    (tariff_reader_atom n v7).bind fun v8 =>
    some (v8.1, (⟨11, 0, [], [v4.2, v6.2, v8.2]⟩ : Expr))
   else
    (tariff_reader_atom n v3.1).bind fun v9 =>
    (a2v n v9.1).bind fun v10 =>
    (a4h n).bind fun v11 =>
    (bif !((mget v11 v10.2.Text).isSome) then
     some (true, v10.1.l, v10.1.at_, v10.1.e)
    else
     (a2a n v10.1 v10.2.Text).bind fun v14 =>
     some (!v14.2, v14.1.l, v14.1.at_, v14.1.e)).bind fun (v12, f1, f2, f3) =>
    bif v12 then
     some ((⟨f1, f2, f3⟩ : reader), v9.2)
    else
     (tariff_reader_atom n (⟨f1, f2, f3⟩ : reader)).bind fun v13 =>
     some (v13.1, (⟨(mget v11 v10.2.Text).getD 0, 0, [], [v9.2, v13.2]⟩ : Expr))
def tariff_reader_atom : Nat → reader → Option (reader × Expr)
 | 0, _ => none
 | n + 1, rx1 =>
  (a2v n rx1).bind fun v1 =>
  bif v1.2.Kind == 1 then
   some ((⟨v1.1.l, iadd .i64 v1.1.at_ 1, v1.1.e⟩ : reader), (⟨0, v1.2.N, [], []⟩ : Expr))
  else
   (bif v1.2.Kind != 0 then
    some (v1.2.Kind != 3)
   else
    some false).bind fun v2 =>
   bif v2 then
    (a2q n v1.1 12).bind fun v3 =>
    some (v3, (⟨0, 0, [], []⟩ : Expr))
   else
    bif v1.2.Text == [40] then
     (tariff_reader_expr n (⟨v1.1.l, iadd .i64 v1.1.at_ 1, v1.1.e⟩ : reader)).bind fun v4 =>
     (a1i n v4.1 [[41]]).bind fun v5 =>
     some (v5, v4.2)
    else
     bif v1.2.Text == [112, 101, 114, 115, 111, 110, 115] then
      some ((⟨v1.1.l, iadd .i64 v1.1.at_ 1, v1.1.e⟩ : reader), (⟨2, 0, [], []⟩ : Expr))
     else
      bif v1.2.Text == [102, 108, 97, 116, 115] then
       some ((⟨v1.1.l, iadd .i64 v1.1.at_ 1, v1.1.e⟩ : reader), (⟨3, 0, [], []⟩ : Expr))
      else
       (bif v1.2.Text == [108, 105, 102, 116, 115] then
        some true
       else
        some (v1.2.Text == [119, 101, 105, 103, 104, 116])).bind fun v6 =>
       bif v6 then
        (bif v1.2.Text == [119, 101, 105, 103, 104, 116] then
         some 4
        else
         some 1).bind fun f1 =>
        (a1i n (⟨v1.1.l, iadd .i64 v1.1.at_ 1, v1.1.e⟩ : reader) [[40]]).bind fun v7 =>
        (a4a n v7 0).bind fun v8 =>
        (a1i n v8.1 [[41]]).bind fun v9 =>
        some (v9, (⟨f1, 0, v8.2.Text, []⟩ : Expr))
       else
        (bif v1.2.Text == [109, 105, 110] then
         some true
        else
         some (v1.2.Text == [109, 97, 120])).bind fun v10 =>
        bif v10 then
         (bif v1.2.Text == [109, 97, 120] then
          some 10
         else
          some 9).bind fun f2 =>
         (a1i n (⟨v1.1.l, iadd .i64 v1.1.at_ 1, v1.1.e⟩ : reader) [[40]]).bind fun v11 =>
         ((tariff_reader_expr n v11).bind fun v15 =>
         (app 56 ([] : List Expr) [v15.2]).bind fun l4 =>
         some (l4, v15.1.l, v15.1.at_, v15.1.e)).bind fun (l1, f3, f4, f5) =>
         (a1i n (⟨f3, f4, f5⟩ : reader) [[44]]).bind fun v12 =>
         ((tariff_reader_expr n v12).bind fun v14 =>
         (app 56 l1 [v14.2]).bind fun l3 =>
         some (l3, v14.1.l, v14.1.at_, v14.1.e)).bind fun (l2, f6, f7, f8) =>
         (a1i n (⟨f6, f7, f8⟩ : reader) [[41]]).bind fun v13 =>
         some (v13, (⟨f2, 0, [], l2⟩ : Expr))
        else
         (a2q n (⟨v1.1.l, isub .i64 (iadd .i64 v1.1.at_ 1) 1, v1.1.e⟩ : reader) 12).bind fun v16 =>
         some (v16, (⟨0, 0, [], []⟩ : Expr))
 end
theorem a4x (n : Nat) (rx1 : reader) : tariff_reader_expr (n + 1) rx1 =
  (a2a n rx1 [110, 111, 116]).bind fun v1 =>
  bif v1.2 then
   (tariff_reader_atom n v1.1).bind fun v2 =>
   some (v2.1, (⟨14, 0, [], [v2.2]⟩ : Expr))
  else
   (a2a n v1.1 [105, 102]).bind fun v3 =>
   bif v3.2 then
    (tariff_reader_atom n v3.1).bind fun v4 =>
    (a1i n v4.1 [[116, 104, 101, 110]]).bind fun v5 =>
    (tariff_reader_atom n v5).bind fun v6 =>
    (a1i n v6.1 [[101, 108, 115, 101]]).bind fun v7 =>
    (tariff_reader_atom n v7).bind fun v8 =>
    some (v8.1, (⟨11, 0, [], [v4.2, v6.2, v8.2]⟩ : Expr))
   else
    (tariff_reader_atom n v3.1).bind fun v9 =>
    (a2v n v9.1).bind fun v10 =>
    (a4h n).bind fun v11 =>
    (bif !((mget v11 v10.2.Text).isSome) then
     some (true, v10.1.l, v10.1.at_, v10.1.e)
    else
     (a2a n v10.1 v10.2.Text).bind fun v14 =>
     some (!v14.2, v14.1.l, v14.1.at_, v14.1.e)).bind fun (v12, f1, f2, f3) =>
    bif v12 then
     some ((⟨f1, f2, f3⟩ : reader), v9.2)
    else
     (tariff_reader_atom n (⟨f1, f2, f3⟩ : reader)).bind fun v13 =>
     some (v13.1, (⟨(mget v11 v10.2.Text).getD 0, 0, [], [v9.2, v13.2]⟩ : Expr)) := rfl
theorem a3v (n : Nat) (rx1 : reader) : tariff_reader_atom (n + 1) rx1 =
  (a2v n rx1).bind fun v1 =>
  bif v1.2.Kind == 1 then
   some ((⟨v1.1.l, iadd .i64 v1.1.at_ 1, v1.1.e⟩ : reader), (⟨0, v1.2.N, [], []⟩ : Expr))
  else
   (bif v1.2.Kind != 0 then
    some (v1.2.Kind != 3)
   else
    some false).bind fun v2 =>
   bif v2 then
    (a2q n v1.1 12).bind fun v3 =>
    some (v3, (⟨0, 0, [], []⟩ : Expr))
   else
    bif v1.2.Text == [40] then
     (tariff_reader_expr n (⟨v1.1.l, iadd .i64 v1.1.at_ 1, v1.1.e⟩ : reader)).bind fun v4 =>
     (a1i n v4.1 [[41]]).bind fun v5 =>
     some (v5, v4.2)
    else
     bif v1.2.Text == [112, 101, 114, 115, 111, 110, 115] then
      some ((⟨v1.1.l, iadd .i64 v1.1.at_ 1, v1.1.e⟩ : reader), (⟨2, 0, [], []⟩ : Expr))
     else
      bif v1.2.Text == [102, 108, 97, 116, 115] then
       some ((⟨v1.1.l, iadd .i64 v1.1.at_ 1, v1.1.e⟩ : reader), (⟨3, 0, [], []⟩ : Expr))
      else
       (bif v1.2.Text == [108, 105, 102, 116, 115] then
        some true
       else
        some (v1.2.Text == [119, 101, 105, 103, 104, 116])).bind fun v6 =>
       bif v6 then
        (bif v1.2.Text == [119, 101, 105, 103, 104, 116] then
         some 4
        else
         some 1).bind fun f1 =>
        (a1i n (⟨v1.1.l, iadd .i64 v1.1.at_ 1, v1.1.e⟩ : reader) [[40]]).bind fun v7 =>
        (a4a n v7 0).bind fun v8 =>
        (a1i n v8.1 [[41]]).bind fun v9 =>
        some (v9, (⟨f1, 0, v8.2.Text, []⟩ : Expr))
       else
        (bif v1.2.Text == [109, 105, 110] then
         some true
        else
         some (v1.2.Text == [109, 97, 120])).bind fun v10 =>
        bif v10 then
         (bif v1.2.Text == [109, 97, 120] then
          some 10
         else
          some 9).bind fun f2 =>
         (a1i n (⟨v1.1.l, iadd .i64 v1.1.at_ 1, v1.1.e⟩ : reader) [[40]]).bind fun v11 =>
         ((tariff_reader_expr n v11).bind fun v15 =>
         (app 56 ([] : List Expr) [v15.2]).bind fun l4 =>
         some (l4, v15.1.l, v15.1.at_, v15.1.e)).bind fun (l1, f3, f4, f5) =>
         (a1i n (⟨f3, f4, f5⟩ : reader) [[44]]).bind fun v12 =>
         ((tariff_reader_expr n v12).bind fun v14 =>
         (app 56 l1 [v14.2]).bind fun l3 =>
         some (l3, v14.1.l, v14.1.at_, v14.1.e)).bind fun (l2, f6, f7, f8) =>
         (a1i n (⟨f6, f7, f8⟩ : reader) [[41]]).bind fun v13 =>
         some (v13, (⟨f2, 0, [], l2⟩ : Expr))
        else
         (a2q n (⟨v1.1.l, isub .i64 (iadd .i64 v1.1.at_ 1) 1, v1.1.e⟩ : reader) 12).bind fun v16 =>
         some (v16, (⟨0, 0, [], []⟩ : Expr)) := rfl
theorem b3q (n : Nat) : (∀ (rx1 : reader) (r : (reader × Expr)) (_ : tariff_reader_expr n rx1 = some r) {w : World} {F : Frz} (_ : Sat F w) {h7 : Option Addr} {h8 : Nat} {h9 : Nat} {brx1 : Nat} (_ : SlR rp_Token F h7 h8 h9 rx1.l) (_ : (OE.box brx1 69 [.slice h7 h8 h9, .int .i64 rx1.at_, .int .i64 rx1.e]).ok w) (_ : F brx1 = none), Calls Tryz.prog 30 #[.pointer (some ⟨brx1, 0, none⟩)] w fun e w' => ∃ v F' cs' O', e = .returned v ∧ HS F w [brx1] F' (.box brx1 69 cs' :: O') w' ∧ (∃ (al_0 : Option Addr) (nl_0 : Nat) (cl_0 : Nat) (a0_3 : Option Addr) (n0_3 : Nat) (c0_3 : Nat), v = .agg #[.int .i64 r.2.Op, .int .i64 r.2.N, vs r.2.Name, .slice a0_3 n0_3 c0_3] ∧ cs' = [.slice al_0 nl_0 cl_0, .int .i64 r.1.at_, .int .i64 r.1.e] ∧ O' = [] ∧ SlR rp_Token F' al_0 nl_0 cl_0 r.1.l ∧ SlR rp_Expr F' a0_3 n0_3 c0_3 r.2.Args)) ∧
  (∀ (rx1 : reader) (r : (reader × Expr)) (_ : tariff_reader_atom n rx1 = some r) {w : World} {F : Frz} (_ : Sat F w) {h7 : Option Addr} {h8 : Nat} {h9 : Nat} {brx1 : Nat} (_ : SlR rp_Token F h7 h8 h9 rx1.l) (_ : (OE.box brx1 69 [.slice h7 h8 h9, .int .i64 rx1.at_, .int .i64 rx1.e]).ok w) (_ : F brx1 = none), Calls Tryz.prog 62 #[.pointer (some ⟨brx1, 0, none⟩)] w fun e w' => ∃ v F' cs' O', e = .returned v ∧ HS F w [brx1] F' (.box brx1 69 cs' :: O') w' ∧ (∃ (al_0 : Option Addr) (nl_0 : Nat) (cl_0 : Nat) (a0_3 : Option Addr) (n0_3 : Nat) (c0_3 : Nat), v = .agg #[.int .i64 r.2.Op, .int .i64 r.2.N, vs r.2.Name, .slice a0_3 n0_3 c0_3] ∧ cs' = [.slice al_0 nl_0 cl_0, .int .i64 r.1.at_, .int .i64 r.1.e] ∧ O' = [] ∧ SlR rp_Token F' al_0 nl_0 cl_0 r.1.l ∧ SlR rp_Expr F' a0_3 n0_3 c0_3 r.2.Args)) := by
 induction n with
 | zero =>
  refine ⟨?_, ?_⟩
  intro rx1 r hm
  exact absurd (show (none : Option (reader × Expr)) = some r from hm) (by simp)
  intro rx1 r hm
  exact absurd (show (none : Option (reader × Expr)) = some r from hm) (by simp)
 | succ n ih =>
  refine ⟨?_, ?_⟩
  intro rx1 r hm w F hs h7 h8 h9 brx1 k6 hbrx1 hfrx1
  rw [a4x] at hm
  have h := HS.lend hs hbrx1 hfrx1
  refine a1a 62 Tryz.func30 Y Y Y (a0g (a0a (a1h ze24 Y Y Y h ?_)))
  intro b1 o7 gt
  refine a0e (a0c (a0g (a1j (a0g (a0a (a0d Y Y Y ?_))))))
  obtain ⟨v1, k7, hm⟩ := Yb hm
  refine a2n ent34 Y Y Y Y gt (i := 1) Y (a4l _ _ _ _ k7 gt.sat k6 (gt.get (i := 1) Y) (gt.lendable (i := 1) Y)) ?_
  rintro _ k8 _ _ o8 o9 gf ⟨i0, i1, i2, rfl, rfl, rfl, g3⟩
  refine a0b Y Y Y (a0e (a0c ?_))
  rcases a0h hm with ⟨hb, hm⟩ | ⟨hb, hm⟩
  refine a0r 9 Y hb (a0x Y (a0g (a0a (a0d Y Y Y ?_))))
  obtain ⟨v2, k9, hm⟩ := Yb hm
  refine a2n ent62 Y Y Y Y gf (i := 1) Y (ih.2 _ _ k9 gf.sat g3 (gf.get (i := 1) Y) (gf.lendable (i := 1) Y)) ?_
  rintro _ lb _ _ oa ob ka ⟨kb, kc, kd, jy, jz, k0, rfl, rfl, rfl, ke, kf⟩
  refine a1f (e := 24) (cs := [.int .i64 v2.2.Op, .int .i64 v2.2.N, vs v2.2.Name, .slice jy jz k0]) (q := 4) Y Y ka Y (fun _ => by kernel_rfl) Y Y ?_
  intro b2 lc Z
  obtain ⟨ld, lf, k1, hsx1⟩ := a5q Z (k := 2) rfl (i := 0) Y (by decide) ((show RowN rp_Expr lb 1 [.int .i64 v2.2.Op, .int .i64 v2.2.N, vs v2.2.Name, .slice jy jz k0] [v2.2] from ⟨Y, ⟨_, _, Y, (expr_iff.2 ⟨jy, jz, k0, Y, kf⟩), (Y : RowR rp_Expr _ [] [])⟩⟩))
  refine a1r (v := .agg #[.int .i64 14, .int .i64 0, vs [], .slice (some ⟨b2, 0, none⟩) 1 1]) Y Y Y (fun _ => by kernel_rfl) (a0o sz24 Y k1 Y Y Y Y (i := 0) Y Y Y Y ?_)
  intro oc j6
  refine a0e (a0c (a1c (a0t (a0j (a3h Y ag24 sz24 Y j6 Y (i := 0) Y ?_)))))
  obtain rfl := Yo hm
  exact ⟨_, _, _, _, Y, j6.Yp [1] Y Y, kb, kc, kd, (some ⟨b2, 0, none⟩), 1, 1, Y, Y, Y, (ke.mono lf), hsx1⟩
  refine a0r 9 Y hb (a0p Y (a0g (a0a (a0d Y Y Y ?_))))
  obtain ⟨v3, kg, hm⟩ := Yb hm
  refine a2n ent34 Y Y Y Y gf (i := 1) Y (a4l _ _ _ _ kg gf.sat g3 (gf.get (i := 1) Y) (gf.lendable (i := 1) Y)) ?_
  rintro _ od _ _ oe kh gg ⟨lg, lh, li, rfl, rfl, rfl, k2⟩
  refine a0b Y Y Y (a0e (a0c ?_))
  rcases a0h hm with ⟨gu, hm⟩ | ⟨gu, hm⟩
  refine a0r 16 Y gu (a0x Y (a0g (a0a (a0d Y Y Y ?_))))
  obtain ⟨v4, ki, hm⟩ := Yb hm
  refine a2n ent62 Y Y Y Y gg (i := 1) Y (ih.2 _ _ ki gg.sat k2 (gg.get (i := 1) Y) (gg.lendable (i := 1) Y)) ?_
  rintro _ lj _ _ of lk k3 ⟨ll, lm, ln, j7, j8, j9, rfl, rfl, rfl, kj, kk⟩
  refine a1h ze24 Y Y Y k3 ?_
  intro b3 og g0
  refine a0o sz24 Y g0 Y Y Y Y (i := 0) Y Y Y Y ?_
  intro oh jf
  refine a0e (a0c (a0g (a0a (a0d Y Y Y (a1f (e := 9) (cs := [vs [116, 104, 101, 110]]) (q := 1) Y Y jf Y (fun _ => by kernel_rfl) Y Y ?_)))))
  intro b4 jg jh
  obtain ⟨ja, k4, gv, hsx2⟩ := a5q jh (k := 3) rfl (i := 0) Y (by decide) ((show RowN Rp.str lj 1 [vs [116, 104, 101, 110]] [[116, 104, 101, 110]] from ⟨Y, ⟨_, _, Y, Y, (Y : RowR Rp.str _ [] [])⟩⟩))
  obtain ⟨v5, kl, hm⟩ := Yb hm
  refine a2n ent28 Y Y Y Y gv (i := 2) Y (a1x _ _ _ _ kl gv.sat (kj.mono k4) (gv.get (i := 2) Y) (gv.lendable (i := 2) Y) hsx2) ?_
  rintro _ oi _ _ lu km gw ⟨oj, ol, om, rfl, rfl, rfl, kn⟩
  refine a0e (a0c (a0g (a0a (a0d Y Y Y ?_))))
  obtain ⟨v6, ko, hm⟩ := Yb hm
  refine a2n ent62 Y Y Y Y gw (i := 2) Y (ih.2 _ _ ko gw.sat kn (gw.get (i := 2) Y) (gw.lendable (i := 2) Y)) ?_
  rintro _ lo _ _ lv lp gx ⟨lq, lr, ls, hc, hd, he, rfl, rfl, rfl, kp, i3⟩
  refine a1h ze24 Y Y Y gx ?_
  intro b5 lw i4
  refine a0o sz24 Y i4 Y Y Y Y (i := 0) Y Y Y Y ?_
  intro lx i5
  refine a0e (a0c (a0g (a0a (a0d Y Y Y (a1f (e := 9) (cs := [vs [101, 108, 115, 101]]) (q := 1) Y Y i5 Y (fun _ => by kernel_rfl) Y Y ?_)))))
  intro b6 ly i6
  obtain ⟨lt, k5, gh, hsx3⟩ := a5q i6 (k := 4) rfl (i := 0) Y (by decide) ((show RowN Rp.str lo 1 [vs [101, 108, 115, 101]] [[101, 108, 115, 101]] from ⟨Y, ⟨_, _, Y, Y, (Y : RowR Rp.str _ [] [])⟩⟩))
  obtain ⟨v7, kq, hm⟩ := Yb hm
  refine a2n ent28 Y Y Y Y gh (i := 3) Y (a1x _ _ _ _ kq gh.sat (kp.mono k5) (gh.get (i := 3) Y) (gh.lendable (i := 3) Y) hsx3) ?_
  rintro _ kr _ _ lz i7 ji ⟨i8, g4, i9, rfl, rfl, rfl, hf⟩
  refine a0e (a0c (a0g (a2f (SH kr [.box b5 24 [.int .i64 v6.2.Op, .int .i64 v6.2.N, vs v6.2.Name, .slice hc hd he], .box b3 24 [.int .i64 v4.2.Op, .int .i64 v4.2.N, vs v4.2.Name, .slice j7 j8 j9]]) 7 Y (by kernel_rfl) ji ?_)))
  intro m0 g1
  have S0 := g1.Ys Yf [0, 1] Y Y
  refine d_tk 0 Y (by kernel_rfl) Y Y Y Y S0 (fun _ _ _ _ hq => a0q ag24 sz24 Y Y hq Y (i := 1) Y Y Yn) (d_tk 1 Y (by kernel_rfl) Y Y Y Y S0 (fun _ _ _ _ hq => a0q ag24 sz24 Y Y hq Y (i := 0) Y Y Yn) (d_tk 2 Y (by kernel_rfl) Y Y Y Y S0 (fun _ _ _ _ _ => a0d Y Y Y Yn) (a0z 3 Y (by kernel_rfl) ?_)))
  obtain ⟨v8, ks, hm⟩ := Yb hm
  refine a2n ent62 Y Y Y Y g1 (i := 3) Y (ih.2 _ _ ks g1.sat hf (g1.get (i := 3) Y) (g1.lendable (i := 3) Y)) ?_
  rintro _ kt _ _ m1 gi ia ⟨hg, hh, hi, ib, ic, id, rfl, rfl, rfl, jj, ie⟩
  refine a0v (ia.Ys gi [0, 1] Y Y) (a0z 4 Y (by kernel_rfl) (a1f (e := 24) (cs := [.int .i64 v4.2.Op, .int .i64 v4.2.N, vs v4.2.Name, .slice j7 j8 j9, .int .i64 v6.2.Op, .int .i64 v6.2.N, vs v6.2.Name, .slice hc hd he, .int .i64 v8.2.Op, .int .i64 v8.2.N, vs v8.2.Name, .slice ib ic id]) (q := 4) Y Y ia Y (fun _ => by kernel_rfl) Y Y ?_))
  intro b7 m2 ig
  refine a0v (ig.Ys gi [1, 2] Y Y) ?_
  obtain ⟨hj, hk, gj, hsx4⟩ := a5q ig (k := 4) rfl (i := 0) Y (by decide) ((show RowN rp_Expr kt 3 [.int .i64 v4.2.Op, .int .i64 v4.2.N, vs v4.2.Name, .slice j7 j8 j9, .int .i64 v6.2.Op, .int .i64 v6.2.N, vs v6.2.Name, .slice hc hd he, .int .i64 v8.2.Op, .int .i64 v8.2.N, vs v8.2.Name, .slice ib ic id] [v4.2, v6.2, v8.2] from ⟨Y, ⟨_, _, Y, (expr_iff.2 ⟨j7, j8, j9, Y, ((((((kk.mono k4).mono km).mono lp).mono k5).mono i7).mono gi)⟩), ⟨_, _, Y, (expr_iff.2 ⟨hc, hd, he, Y, (((i3.mono k5).mono i7).mono gi)⟩), ⟨_, _, Y, (expr_iff.2 ⟨ib, ic, id, Y, ie⟩), (Y : RowR rp_Expr _ [] [])⟩⟩⟩⟩))
  refine d_tk 5 Y (by kernel_rfl) Y Y Y Y (gj.Ys (gi.trans hk) [0, 1] Y Y) (fun _ _ _ _ _ => a1r (v := .agg #[.int .i64 11, .int .i64 0, vs [], .slice (some ⟨b7, 0, none⟩) 3 3]) Y Y Y (fun _ => by kernel_rfl) Yn) (a0z 6 Y (by kernel_rfl) (a0o sz24 Y gj Y Y Y Y (i := 2) Y Y Y Y ?_))
  intro m3 g5
  refine a0v (g5.Ys (gi.trans hk) [0, 1] Y Y) (a2u (by kernel_rfl) (a0c (a1c (a0t (a0j (a3h Y ag24 sz24 Y g5 Y (i := 2) Y ?_))))))
  obtain rfl := Yo hm
  exact ⟨_, _, _, _, Y, g5.Yp [3] Y Y, hg, hh, hi, (some ⟨b7, 0, none⟩), 3, 3, Y, Y, Y, (jj.mono hk), hsx4⟩
  refine a0r 16 Y gu (a0p Y (a1b (a1o (a0c (a0g (a0a (a0d Y Y Y ?_)))))))
  obtain ⟨v9, ku, hm⟩ := Yb hm
  refine a2n ent62 Y Y Y Y gg (i := 1) Y (ih.2 _ _ ku gg.sat k2 (gg.get (i := 1) Y) (gg.lendable (i := 1) Y)) ?_
  rintro _ m4 _ _ m5 kv jk ⟨hl, gy, hn, I, J, K, rfl, rfl, rfl, jl, ii⟩
  refine a1h ze24 Y Y Y jk ?_
  intro b8 m6 jm
  refine a0o sz24 Y jm Y Y Y Y (i := 0) Y Y Y Y ?_
  intro m7 gz
  refine a0e (a0c (a0g (a0a (a0d Y Y Y ?_))))
  obtain ⟨v10, jn, hm⟩ := Yb hm
  refine a2n ent61 Y Y Y Y gz (i := 2) Y (a5x _ _ _ jn gz.sat jl (gz.get (i := 2) Y) (gz.lendable (i := 2) Y)) ?_
  rintro _ ij _ _ m8 jo h0 ⟨ik, il, im, rfl, rfl, rfl, io⟩
  refine a1h ze72 Y Y Y h0 ?_
  intro b9 m9 ip
  refine a0o sz72 Y ip Y Y Y Y (i := 0) Y Y Y Y ?_
  intro ma iq
  refine a0e (a0c (a0g (a2f (SH ij [.box b9 72 [.int .i64 v10.2.Kind, vs v10.2.Text, .int .i64 v10.2.N, .int .i64 v10.2.Pos], .box b8 24 [.int .i64 v9.2.Op, .int .i64 v9.2.N, vs v9.2.Name, .slice I J K], .box b1 24 [.int .i64 0, .int .i64 0, vs [], .slice none 0 0], .box brx1 69 [.slice ik il im, .int .i64 v10.1.at_, .int .i64 v10.1.e]]) 9 Y (by kernel_rfl) iq ?_)))
  intro mb h1
  refine d_tk 1 Y (by kernel_rfl) Y Y Y Y (h1.Ys Yf [0, 1, 2, 3] Y Y) (fun _ _ _ _ _ => a0f fa72_1 Y Y Y Yn) (d_tk 2 Y (by kernel_rfl) Y Y Y Y (h1.Ys Yf [0, 1, 2, 3] Y Y) (fun _ _ _ _ hq => a0n ag9 Y Y hq Y (i := 0) Y Y Yn) (a0z 0 Y (by kernel_rfl) ?_))
  obtain ⟨v11, ho, hm⟩ := Yb hm
  refine a0i ent57 Y Y Y Y h1 (b1n _ _ ho h1.sat) ?_
  rintro _ g6 _ mc h2 Q ⟨bs17, ess17, cls17, rfl, rfl, h3⟩
  have S1 := Q.Ys h2 [1, 2, 3, 4] Y Y
  refine a0v S1 (a0z 3 Y (by kernel_rfl) (d1m (k := v10.2.Text) (z := 0) (i := 0) key9 um97 zv3 Y Y Q Y Y Y h3 (a0v S1 (d_tk 4 Y (by kernel_rfl) Y Y Y Y S1 (fun _ _ _ _ _ => a0d Y Y Y Yn) (d_tk 5 Y (by kernel_rfl) Y Y Y Y S1 (fun _ _ _ _ _ => a0l Y Y Y Y Yn) (d_tk 6 Y (by kernel_rfl) Y Y Y Y S1 (fun _ _ _ _ _ => a0l Y Y Y Y Yn) ?_))))))
  refine d_tk 7 Y (by kernel_rfl) Y Y Y Y S1 (fun _ _ _ _ _ => a0b Y Y Y Yn) (d_tk 8 Y (by kernel_rfl) Y Y Y Y S1 (fun _ _ _ _ _ => a0b Y Y Y Yn) (a2u (by kernel_rfl) (a0c (a0g (a0g (a0a (a0d Y Y Y (a4c Y Y Y (a0d Y Y Y ?_)))))))))
  obtain ⟨⟨v12, f1, f2, f3⟩, g7, hm⟩ := Yb hm
  refine a2g 6 (fun a w' => ∃ (h4 : Frz) (o : Option Addr) (p : Nat) (s : Nat), Frz.le g6 h4 ∧ HS F w [brx1] h4 [.mp bs17 ess17 cls17, .box b9 72 [.int .i64 v10.2.Kind, vs v10.2.Text, .int .i64 v10.2.N, .int .i64 v10.2.Pos], .box b8 24 [.int .i64 v9.2.Op, .int .i64 v9.2.N, vs v9.2.Name, .slice I J K], .box b1 24 [.int .i64 0, .int .i64 0, vs [], .slice none 0 0], .box brx1 69 [.slice o p s, .int .i64 f2, .int .i64 f3]] w' ∧ (SlR rp_Token h4 o p s f1) ∧ Has 62 a [(0, .pointer (some ⟨brx1, 0, none⟩)), (2, .pointer (some ⟨b1, 0, none⟩)), (5, .pointer (some ⟨b8, 0, none⟩)), (7, .int .i64 ((mget v11 v10.2.Text).getD 0)), (54, .bool v12)]) ?_ ?_
  rintro a md ⟨h4, o, p, s, gk, gl, gm, jp⟩
  refine a1d jp (a0e (a0c ?_))
  rcases a0h hm with ⟨hp, hm⟩ | ⟨hp, hm⟩
  refine a0r 54 Y hp (a0x Y (a0g (a0a (a0q ag24 sz24 Y Y gl Y (i := 2) Y Y (a0o sz24 Y gl Y Y Y Y (i := 3) Y Y Y Y ?_)))))
  intro me ir
  refine a0e (a0c (a1c (a0j (a3h Y ag24 sz24 Y ir Y (i := 3) Y ?_))))
  obtain rfl := Yo hm
  exact ⟨_, _, _, _, Y, ir.Yp [4] Y Y, o, p, s, I, J, K, Y, Y, Y, gm, (((ii.mono jo).mono h2).mono gk)⟩
  refine a0r 54 Y hp (a0p Y (a1b (a0c (a0g (a2f (SH h4 [.mp bs17 ess17 cls17, .box b9 72 [.int .i64 v10.2.Kind, vs v10.2.Text, .int .i64 v10.2.N, .int .i64 v10.2.Pos], .box b8 24 [.int .i64 v9.2.Op, .int .i64 v9.2.N, vs v9.2.Name, .slice I J K]]) 7 Y (by kernel_rfl) gl ?_)))))
  intro mf gn
  have S2 := gn.Ys Yf [0, 1, 2] Y Y
  refine d_tk 0 Y (by kernel_rfl) Y Y Y Y S2 (fun _ _ _ _ _ => a0d Y Y Y Yn) (d_tk 1 Y (by kernel_rfl) Y Y Y Y S2 (fun _ _ _ _ hq => a0q ag24 sz24 Y Y hq Y (i := 2) Y Y Yn) (d_tk 2 Y (by kernel_rfl) Y Y Y Y S2 (fun _ _ _ _ _ => a0d Y Y Y Yn) (a0z 3 Y (by kernel_rfl) ?_)))
  obtain ⟨v13, hr, hm⟩ := Yb hm
  refine a2n ent62 Y Y Y Y gn (i := 4) Y (ih.2 _ _ hr gn.sat gm (gn.get (i := 4) Y) (gn.lendable (i := 4) Y)) ?_
  rintro _ it _ _ mg g2 go ⟨gp, mh, gq, g8, g9, ga, rfl, rfl, rfl, gr, h5⟩
  refine a0v (go.Ys g2 [0, 1, 2] Y Y) (a0z 4 Y (by kernel_rfl) (a1f (e := 24) (cs := [.int .i64 v9.2.Op, .int .i64 v9.2.N, vs v9.2.Name, .slice I J K, .int .i64 v13.2.Op, .int .i64 v13.2.N, vs v13.2.Name, .slice g8 g9 ga]) (q := 4) Y Y go Y (fun _ => by kernel_rfl) Y Y ?_))
  intro b10 mi iu
  refine a0v (iu.Ys g2 [1, 2, 3] Y Y) ?_
  obtain ⟨gs, iv, iw, hsx5⟩ := a5q iu (k := 5) rfl (i := 0) Y (by decide) ((show RowN rp_Expr it 2 [.int .i64 v9.2.Op, .int .i64 v9.2.N, vs v9.2.Name, .slice I J K, .int .i64 v13.2.Op, .int .i64 v13.2.N, vs v13.2.Name, .slice g8 g9 ga] [v9.2, v13.2] from ⟨Y, ⟨_, _, Y, (expr_iff.2 ⟨I, J, K, Y, ((((ii.mono jo).mono h2).mono gk).mono g2)⟩), ⟨_, _, Y, (expr_iff.2 ⟨g8, g9, ga, Y, h5⟩), (Y : RowR rp_Expr _ [] [])⟩⟩⟩))
  refine d_tk 5 Y (by kernel_rfl) Y Y Y Y (iw.Ys (g2.trans iv) [0, 1, 2] Y Y) (fun _ _ _ _ _ => a1r (v := .agg #[.int .i64 ((mget v11 v10.2.Text).getD 0), .int .i64 0, vs [], .slice (some ⟨b10, 0, none⟩) 2 2]) Y Y Y (fun _ => by kernel_rfl) Yn) (a0z 6 Y (by kernel_rfl) (a0o sz24 Y iw Y Y Y Y (i := 3) Y Y Y Y ?_))
  intro mj ht
  refine a0v (ht.Ys (g2.trans iv) [0, 1, 2] Y Y) (a2u (by kernel_rfl) (a0c (a1c (a3h Y ag24 sz24 Y ht Y (i := 3) Y ?_))))
  obtain rfl := Yo hm
  exact ⟨_, _, _, _, Y, ht.Yp [4] Y Y, gp, mh, gq, (some ⟨b10, 0, none⟩), 2, 2, Y, Y, Y, (gr.mono iv), hsx5⟩
  clear hm
  rcases a0h g7 with ⟨hu, g7⟩ | ⟨hu, g7⟩
  refine a1k 48 Y hu (a0y Y (by decide) Y (a0y Y (by decide) Y (a0y Y (by decide) Y (a0y Y (by decide) Y (a0y Y (by decide) Y (a0s Y Y Y Y (a0e (a0k (fun a ha => ?_)))))))))
  cases g7
  exact ⟨_, ik, il, im, Yf, Q.Yp [0, 1, 2, 3, 4] Y Y, (io.mono h2), ha.cut (l := [0, 2, 5, 7, 54]) Y⟩
  refine a1k 48 Y hu (a0d Y Y Y (a0f fa72_1 Y Y Y (a0n ag9 Y Y Q Y (i := 1) Y Y ?_)))
  obtain ⟨v14, jq, g7⟩ := Yb g7
  refine a2n ent34 Y Y Y Y Q (i := 4) Y (a4l _ _ _ _ jq Q.sat (io.mono h2) (Q.get (i := 4) Y) (Q.lendable (i := 4) Y)) ?_
  rintro _ mk _ _ ml ix jr ⟨t, x, y, rfl, rfl, rfl, h6⟩
  refine a4c Y Y Y (a0m Y Y Y Y (a0e (a0k (fun a ha => ?_))))
  cases g7
  exact ⟨_, t, x, y, ix, jr.Yp [0, 1, 2, 3, 4] Y Y, h6, ha.cut (l := [0, 2, 5, 7, 54]) Y⟩
  intro rx1 r hm w F hs h7 h8 h9 brx1 k6 hbrx1 hfrx1
  rw [a3v] at hm
  have h := HS.lend hs hbrx1 hfrx1
  refine a1a 117 Tryz.func62 Y Y Y (a0g (a0a (a1h ze24 Y Y Y h ?_)))
  intro b1 o7 gt
  refine a0e (a0c (a0g (a0a (a0d Y Y Y ?_))))
  obtain ⟨v1, k7, hm⟩ := Yb hm
  refine a2n ent61 Y Y Y Y gt (i := 1) Y (a5x _ _ _ k7 gt.sat k6 (gt.get (i := 1) Y) (gt.lendable (i := 1) Y)) ?_
  rintro _ k8 _ _ o8 o9 gf ⟨i0, i1, i2, rfl, rfl, rfl, g3⟩
  refine a1h ze72 Y Y Y gf ?_
  intro b2 oa ka
  refine a0o sz72 Y ka Y Y Y Y (i := 0) Y Y Y Y ?_
  intro lc Z
  refine a0e (a0c (a0g (a0g (a0a (a0f fa72_0 Y Y Y (a0n ag3 Y Y Z Y (i := 0) Y Y (a0u Y Y Y Y Y (a0e (a0c ?_)))))))))
  rcases a0h hm with ⟨hb, hm⟩ | ⟨hb, hm⟩
  refine a0r 11 Y hb (a0x Y (a0g (a0a (a0d Y Y Y (a9p Y Y Y (a0f fa69_1 Y Y Y (a0n ag3 Y Y Z Y (i := 2) Y Y (a0u Y Y Y Y Y (a9p Y Y Y ?_)))))))))
  refine a0f fa69_1 Y Y Y (a0o sz3 Y Z Y Y Y Y (i := 2) Y Y Y Y ?_)
  intro oc k1
  refine a0e (a0c (a0g (a0a (a0f fa72_2 Y Y Y (a0n ag3 Y Y k1 Y (i := 0) Y Y (a1r (v := .agg #[.int .i64 0, .int .i64 v1.2.N, vs [], .slice none 0 0]) Y Y Y (fun _ => by kernel_rfl) (a0o sz24 Y k1 Y Y Y Y (i := 1) Y Y Y Y ?_)))))))
  intro oe j6
  refine a0e (a0c (a1c (a0j (a3h Y ag24 sz24 Y j6 Y (i := 1) Y ?_))))
  obtain rfl := Yo hm
  exact ⟨_, _, _, _, Y, j6.Yp [2] Y Y, i0, i1, i2, none, 0, 0, Y, Y, Y, g3, SlR.nil _ _⟩
  refine a0r 11 Y hb (a0p Y (a1b (a0c (a0g (a0g (a0a (a0f fa72_0 Y Y Y (a0n ag3 Y Y Z Y (i := 0) Y Y (a0u Y Y Y Y Y (a0d Y Y Y ?_))))))))))
  obtain ⟨v2, gu, hm⟩ := Yb hm
  refine a2g 4 (fun a w' => lc = w' ∧ Has 117 a [(0, .pointer (some ⟨brx1, 0, none⟩)), (2, .pointer (some ⟨b1, 0, none⟩)), (3, .pointer (some ⟨b2, 0, none⟩)), (29, .bool v2)]) ?_ ?_
  rintro a of ⟨rfl, jp⟩
  refine a1d jp (a0e (a0c ?_))
  rcases a0h hm with ⟨g7, hm⟩ | ⟨g7, hm⟩
  refine a0r 29 Y g7 (a0x Y (a0g (a0a (a0d Y Y Y ?_))))
  obtain ⟨v3, k9, hm⟩ := Yb hm
  refine a2n ent33 Y Y Y Y Z (i := 2) Y (a3z _ _ _ _ k9 Z.sat g3 (Z.get (i := 2) Y) (Z.lendable (i := 2) Y)) ?_
  rintro _ lb _ _ og ob gg ⟨kb, kc, kd, rfl, rfl, rfl, ke⟩
  refine a0e (a0c (a0g (a0a (a1r (v := .agg #[.int .i64 0, .int .i64 0, vs [], .slice none 0 0]) Y Y Y (fun _ => by kernel_rfl) (a0o sz24 Y gg Y Y Y Y (i := 1) Y Y Y Y ?_)))))
  intro oh k3
  refine a0e (a0c (a1c (a0j (a3h Y ag24 sz24 Y k3 Y (i := 1) Y ?_))))
  obtain rfl := Yo hm
  exact ⟨_, _, _, _, Y, k3.Yp [2] Y Y, kb, kc, kd, none, 0, 0, Y, Y, Y, ke, SlR.nil _ _⟩
  refine a0r 29 Y g7 (a0p Y (a1b (a0c (a0g (a0a (a0d Y Y Y (a9p Y Y Y (a0f fa69_1 Y Y Y (a0n ag3 Y Y Z Y (i := 2) Y Y (a0u Y Y Y Y Y (a9p Y Y Y ?_)))))))))))
  refine a0f fa69_1 Y Y Y (a0o sz3 Y Z Y Y Y Y (i := 2) Y Y Y Y ?_)
  intro jg g0
  refine a0e (a0c (a0g (a0g (a0a (a0f fa72_1 Y Y Y (a0n ag9 Y Y g0 Y (i := 0) Y Y (a0e (a0c (a1j (a0g (a0a (b4m Y Y Y Y Y (a0b Y Y Y (a0e (a0c ?_)))))))))))))))
  rcases a0h hm with ⟨hp, hm⟩ | ⟨hp, hm⟩
  refine a0r 42 Y hp (a0x Y (a0g (a0a (a0d Y Y Y ?_))))
  obtain ⟨v4, kg, hm⟩ := Yb hm
  refine a2n ent30 Y Y Y Y g0 (i := 2) Y (ih.1 _ _ kg g0.sat g3 (g0.get (i := 2) Y) (g0.lendable (i := 2) Y)) ?_
  rintro _ ld _ _ lu lf jf ⟨jy, jz, k0, lg, lh, li, rfl, rfl, rfl, kf, k2⟩
  refine a1h ze24 Y Y Y jf ?_
  intro b3 lv jh
  refine a0o sz24 Y jh Y Y Y Y (i := 0) Y Y Y Y ?_
  intro lw gv
  refine a0e (a0c (a0g (a0a (a0d Y Y Y (a1f (e := 9) (cs := [vs [41]]) (q := 1) Y Y gv Y (fun _ => by kernel_rfl) Y Y ?_)))))
  intro b4 lx gw
  obtain ⟨od, kh, gx, hsx1⟩ := a5q gw (k := 4) rfl (i := 0) Y (by decide) ((show RowN Rp.str ld 1 [vs [41]] [[41]] from ⟨Y, ⟨_, _, Y, Y, (Y : RowR Rp.str _ [] [])⟩⟩))
  obtain ⟨v5, ki, hm⟩ := Yb hm
  refine a2n ent28 Y Y Y Y gx (i := 3) Y (a1x _ _ _ _ ki gx.sat (kf.mono kh) (gx.get (i := 3) Y) (gx.lendable (i := 3) Y) hsx1) ?_
  rintro _ lj _ _ ly lk i4 ⟨ll, lm, ln, rfl, rfl, rfl, kj⟩
  refine a0e (a0c (a0g (a0a (a0q ag24 sz24 Y Y i4 Y (i := 0) Y Y (a0o sz24 Y i4 Y Y Y Y (i := 2) Y Y Y Y ?_)))))
  intro lz i5
  refine a0e (a0c (a1c (a0t (a0j (a3h Y ag24 sz24 Y i5 Y (i := 2) Y ?_)))))
  obtain rfl := Yo hm
  exact ⟨_, _, _, _, Y, i5.Yp [3] Y Y, ll, lm, ln, lg, lh, li, Y, Y, Y, kj, ((k2.mono kh).mono lk)⟩
  refine a0r 42 Y hp (a0p Y (a0g (a0a (b4m Y Y Y Y Y (a0b Y Y Y (a0e (a0c ?_)))))))
  rcases a0h hm with ⟨hu, hm⟩ | ⟨hu, hm⟩
  refine a0r 50 Y hu (a0x Y (a0g (a0a (a1r (v := .agg #[.int .i64 2, .int .i64 0, vs [], .slice none 0 0]) Y Y Y (fun _ => by kernel_rfl) (a0o sz24 Y g0 Y Y Y Y (i := 1) Y Y Y Y ?_)))))
  intro m0 i6
  refine a0e (a0c (a1c (a0t (a0j (a3h Y ag24 sz24 Y i6 Y (i := 1) Y ?_)))))
  obtain rfl := Yo hm
  exact ⟨_, _, _, _, Y, i6.Yp [2] Y Y, i0, i1, i2, none, 0, 0, Y, Y, Y, g3, SlR.nil _ _⟩
  refine a0r 50 Y hu (a0p Y (a0g (a0a (b4m Y Y Y Y Y (a0b Y Y Y (a0e (a0c ?_)))))))
  rcases a0h hm with ⟨kw, hm⟩ | ⟨kw, hm⟩
  refine a0r 53 Y kw (a0x Y (a0g (a0a (a1r (v := .agg #[.int .i64 3, .int .i64 0, vs [], .slice none 0 0]) Y Y Y (fun _ => by kernel_rfl) (a0o sz24 Y g0 Y Y Y Y (i := 1) Y Y Y Y ?_)))))
  intro m1 gh
  refine a0e (a0c (a1c (a0t (a0j (a3h Y ag24 sz24 Y gh Y (i := 1) Y ?_)))))
  obtain rfl := Yo hm
  exact ⟨_, _, _, _, Y, gh.Yp [2] Y Y, i0, i1, i2, none, 0, 0, Y, Y, Y, g3, SlR.nil _ _⟩
  refine a0r 53 Y kw (a0p Y (a0g (a0g (a0a (b4m Y Y Y Y Y (a0b Y Y Y (a0e (a0c ?_))))))))
  obtain ⟨v6, jb, hm⟩ := Yb hm
  refine a6f (fun a w' => jg = w' ∧ Has 117 a [(0, .pointer (some ⟨brx1, 0, none⟩)), (2, .pointer (some ⟨b1, 0, none⟩)), (3, .pointer (some ⟨b2, 0, none⟩)), (41, vs v1.2.Text), (56, .bool v6)]) ?_ ?_
  rintro a m2 ⟨rfl, mm⟩
  refine a1l mm ?_
  rcases a0h hm with ⟨kx, hm⟩ | ⟨kx, hm⟩
  refine a0r 56 Y kx (a0x Y (a0g (a0a (a1r (v := .agg #[.int .i64 1, .int .i64 0, vs [], .slice none 0 0]) Y Y Y (fun _ => by kernel_rfl) (a1h ze24 Y Y Y g0 ?_)))))
  intro b5 m3 ji
  refine a0o sz24 Y ji Y Y Y Y (i := 0) Y Y Y Y ?_
  intro m5 g1
  refine a0e (a0c (a0g (a0g (a0a (a0f fa72_1 Y Y Y (a0n ag9 Y Y g1 Y (i := 1) Y Y (b4m Y Y Y Y Y (a0e (a0c ?_)))))))))
  obtain ⟨f1, jc, hm⟩ := Yb hm
  refine a6f (fun a w' => ∃ (ja : Frz), Frz.le k8 ja ∧ HS F w [brx1] ja [.box b5 24 [.int .i64 f1, .int .i64 0, vs [], .slice none 0 0], .box b2 72 [.int .i64 v1.2.Kind, vs v1.2.Text, .int .i64 v1.2.N, .int .i64 v1.2.Pos], .box b1 24 [.int .i64 0, .int .i64 0, vs [], .slice none 0 0], .box brx1 69 [.slice i0 i1 i2, .int .i64 (iadd .i64 v1.1.at_ 1), .int .i64 v1.1.e]] w' ∧ Has 117 a [(0, .pointer (some ⟨brx1, 0, none⟩)), (2, .pointer (some ⟨b1, 0, none⟩)), (5, .pointer (some ⟨b5, 0, none⟩))]) ?_ ?_
  rintro a m6 ⟨ja, k4, ia, mn⟩
  refine a1l mn (a0g (a0a (a0d Y Y Y (a1f (e := 9) (cs := [vs [40]]) (q := 1) Y Y ia Y (fun _ => by kernel_rfl) Y Y ?_))))
  intro b6 m7 ig
  obtain ⟨oi, km, gj, hsx2⟩ := a5q ig (k := 4) rfl (i := 0) Y (by decide) ((show RowN Rp.str ja 1 [vs [40]] [[40]] from ⟨Y, ⟨_, _, Y, Y, (Y : RowR Rp.str _ [] [])⟩⟩))
  obtain ⟨v7, kl, hm⟩ := Yb hm
  refine a2n ent28 Y Y Y Y gj (i := 3) Y (a1x _ _ _ _ kl gj.sat ((g3.mono k4).mono km) (gj.get (i := 3) Y) (gj.lendable (i := 3) Y) hsx2) ?_
  rintro _ lo _ _ m8 lp g5 ⟨j7, j8, j9, rfl, rfl, rfl, kk⟩
  refine a0e (a0c (a0g (a0a (a0d Y Y Y ?_))))
  obtain ⟨v8, ko, hm⟩ := Yb hm
  refine a2n ent29 Y Y Y Y g5 (i := 3) Y (a8m _ _ _ _ ko g5.sat kk (g5.get (i := 3) Y) (g5.lendable (i := 3) Y)) ?_
  rintro _ lt _ _ m9 k5 jk ⟨oj, ol, om, rfl, rfl, rfl, kn⟩
  refine c5b (v := .agg #[.int .i64 v8.2.Kind, vs v8.2.Text, .int .i64 v8.2.N, .int .i64 v8.2.Pos]) (u := vs v8.2.Text) (fun _ => by kernel_rfl) Y Y Y (a0f fa24_2 Y Y Y (a0o sz9 Y jk Y Y Y Y (i := 0) Y Y Y Y ?_))
  intro ma jm
  refine a0e (a0c (a0g (a0a (a0d Y Y Y (a1f (e := 9) (cs := [vs [41]]) (q := 1) Y Y jm Y (fun _ => by kernel_rfl) Y Y ?_)))))
  intro b7 mb gz
  obtain ⟨kr, i7, h0, hsx3⟩ := a5q gz (k := 4) rfl (i := 0) Y (by decide) ((show RowN Rp.str lt 1 [vs [41]] [[41]] from ⟨Y, ⟨_, _, Y, Y, (Y : RowR Rp.str _ [] [])⟩⟩))
  obtain ⟨v9, kq, hm⟩ := Yb hm
  refine a2n ent28 Y Y Y Y h0 (i := 3) Y (a1x _ _ _ _ kq h0.sat (kn.mono i7) (h0.get (i := 3) Y) (h0.lendable (i := 3) Y) hsx3) ?_
  rintro _ kt _ _ mc gi ip ⟨lq, lr, ls, rfl, rfl, rfl, kp⟩
  refine a0e (a0c (a0g (a0a (a0q ag24 sz24 Y Y ip Y (i := 0) Y Y (a0o sz24 Y ip Y Y Y Y (i := 2) Y Y Y Y ?_)))))
  intro md iq
  refine a0e (a0c (a1c (a0t (a0j (a3h Y ag24 sz24 Y iq Y (i := 2) Y ?_)))))
  obtain rfl := Yo hm
  exact ⟨_, _, _, _, Y, iq.Yp [3] Y Y, lq, lr, ls, none, 0, 0, Y, Y, Y, kp, SlR.nil _ _⟩
  clear hm
  rcases a0h jc with ⟨js, jc⟩ | ⟨js, jc⟩
  refine a0r 62 Y js (a0x Y (a0a (a0f fa24_0 Y Y Y (a0o sz3 Y g1 Y Y Y Y (i := 0) Y Y Y Y ?_))))
  intro me h1
  refine a0e (a0k (fun a ha => ?_))
  cases jc
  exact ⟨_, Yf, h1.Yp [0, 1, 2, 3] Y Y, ha.cut (l := [0, 2, 5]) Y⟩
  refine a0r 62 Y js (a0p Y (a1b (a0k (fun a ha => ?_))))
  cases jc
  exact ⟨_, Yf, g1.Yp [0, 1, 2, 3] Y Y, ha.cut (l := [0, 2, 5]) Y⟩
  refine a0r 56 Y kx (a0p Y (a0g (a0g (a0a (b4m Y Y Y Y Y (a0b Y Y Y (a0e (a0c ?_))))))))
  obtain ⟨v10, hv, hm⟩ := Yb hm
  refine a6f (fun a w' => jg = w' ∧ Has 117 a [(0, .pointer (some ⟨brx1, 0, none⟩)), (2, .pointer (some ⟨b1, 0, none⟩)), (3, .pointer (some ⟨b2, 0, none⟩)), (75, .bool v10)]) ?_ ?_
  rintro a mf ⟨rfl, mo⟩
  refine a1l mo ?_
  rcases a0h hm with ⟨jt, hm⟩ | ⟨jt, hm⟩
  refine a0r 75 Y jt (a0x Y (a0g (a0a (a1r (v := .agg #[.int .i64 9, .int .i64 0, vs [], .slice none 0 0]) Y Y Y (fun _ => by kernel_rfl) (a1h ze24 Y Y Y g0 ?_)))))
  intro b8 mg Q
  refine a0o sz24 Y Q Y Y Y Y (i := 0) Y Y Y Y ?_
  intro mi gl
  refine a0e (a0c (a0g (a0g (a0a (a0f fa72_1 Y Y Y (a0n ag9 Y Y gl Y (i := 1) Y Y (b4m Y Y Y Y Y (a0e (a0c ?_)))))))))
  obtain ⟨f2, hw, hm⟩ := Yb hm
  refine a6f (fun a w' => ∃ (hj : Frz), Frz.le k8 hj ∧ HS F w [brx1] hj [.box b8 24 [.int .i64 f2, .int .i64 0, vs [], .slice none 0 0], .box b2 72 [.int .i64 v1.2.Kind, vs v1.2.Text, .int .i64 v1.2.N, .int .i64 v1.2.Pos], .box b1 24 [.int .i64 0, .int .i64 0, vs [], .slice none 0 0], .box brx1 69 [.slice i0 i1 i2, .int .i64 (iadd .i64 v1.1.at_ 1), .int .i64 v1.1.e]] w' ∧ Has 117 a [(0, .pointer (some ⟨brx1, 0, none⟩)), (2, .pointer (some ⟨b1, 0, none⟩)), (6, .pointer (some ⟨b8, 0, none⟩))]) ?_ ?_
  rintro a mj ⟨hj, hk, ir, mq⟩
  refine a1l mq (a0g (a0a (a0d Y Y Y (a1f (e := 9) (cs := [vs [40]]) (q := 1) Y Y ir Y (fun _ => by kernel_rfl) Y Y ?_))))
  intro b9 ml gn
  obtain ⟨m4, kv, go, hsx4⟩ := a5q gn (k := 4) rfl (i := 0) Y (by decide) ((show RowN Rp.str hj 1 [vs [40]] [[40]] from ⟨Y, ⟨_, _, Y, Y, (Y : RowR Rp.str _ [] [])⟩⟩))
  obtain ⟨v11, ks, hm⟩ := Yb hm
  refine a2n ent28 Y Y Y Y go (i := 3) Y (a1x _ _ _ _ ks go.sat ((g3.mono hk).mono kv) (go.get (i := 3) Y) (go.lendable (i := 3) Y) hsx4) ?_
  rintro _ ij _ _ on jo iu ⟨hc, hd, he, rfl, rfl, rfl, i3⟩
  refine a0e (a0c ?_)
  have iw := iu.nilRow 24 4
  obtain ⟨⟨l1, f3, f4, f5⟩, G, hm⟩ := Yb hm
  refine c5g (fun a w' => ∃ (g6 : Frz) (i8 : Option Addr) (g4 : Nat) (i9 : Nat) (xss11 : List Value) (hg : Option Addr) (hh : Nat) (hi : Nat), Frz.le ij g6 ∧ HS F w [brx1] g6 [.row 24 4 i8 g4 i9 xss11, .box b8 24 [.int .i64 f2, .int .i64 0, vs [], .slice i8 g4 i9], .box b2 72 [.int .i64 v1.2.Kind, vs v1.2.Text, .int .i64 v1.2.N, .int .i64 v1.2.Pos], .box b1 24 [.int .i64 0, .int .i64 0, vs [], .slice none 0 0], .box brx1 69 [.slice hg hh hi, .int .i64 f4, .int .i64 f5]] w' ∧ (RowN rp_Expr g6 g4 xss11 l1) ∧ (SlR rp_Token g6 hg hh hi f3) ∧ Has 117 a [(0, .pointer (some ⟨brx1, 0, none⟩)), (2, .pointer (some ⟨b1, 0, none⟩)), (6, .pointer (some ⟨b8, 0, none⟩))]) ?_ ?_
  rintro a oo ⟨g6, i8, g4, i9, xss11, hg, hh, hi, h2, ht, hf, jj, mr⟩
  refine a1l mr (a0g (a0a (a0d Y Y Y (a1f (e := 9) (cs := [vs [44]]) (q := 1) Y Y ht Y (fun _ => by kernel_rfl) Y Y ?_))))
  intro b10 op jr
  obtain ⟨h4, gk, iy, hsx5⟩ := a5q jr (k := 5) rfl (i := 0) Y (by decide) ((show RowN Rp.str g6 1 [vs [44]] [[44]] from ⟨Y, ⟨_, _, Y, Y, (Y : RowR Rp.str _ [] [])⟩⟩))
  obtain ⟨v12, ku, hm⟩ := Yb hm
  refine a2n ent28 Y Y Y Y iy (i := 4) Y (a1x _ _ _ _ ku iy.sat (jj.mono gk) (iy.get (i := 4) Y) (iy.lendable (i := 4) Y) hsx5) ?_
  rintro _ it _ _ oq g2 ms ⟨ib, ic, id, rfl, rfl, rfl, ie⟩
  refine a0e (a0c ?_)
  obtain ⟨⟨l2, f6, f7, f8⟩, H, hm⟩ := Yb hm
  refine c5g (fun a w' => ∃ (gs : Frz) (hl : Option Addr) (gy : Nat) (hn : Nat) (xss14 : List Value) (I : Option Addr) (J : Nat) (K : Nat), Frz.le it gs ∧ HS F w [brx1] gs [.row 24 4 hl gy hn xss14, .box b8 24 [.int .i64 f2, .int .i64 0, vs [], .slice hl gy hn], .box b2 72 [.int .i64 v1.2.Kind, vs v1.2.Text, .int .i64 v1.2.N, .int .i64 v1.2.Pos], .box b1 24 [.int .i64 0, .int .i64 0, vs [], .slice none 0 0], .box brx1 69 [.slice I J K, .int .i64 f7, .int .i64 f8]] w' ∧ (RowN rp_Expr gs gy xss14 l2) ∧ (SlR rp_Token gs I J K f6) ∧ Has 117 a [(0, .pointer (some ⟨brx1, 0, none⟩)), (2, .pointer (some ⟨b1, 0, none⟩)), (6, .pointer (some ⟨b8, 0, none⟩))]) ?_ ?_
  rintro a os ⟨gs, hl, gy, hn, xss14, I, J, K, iv, mt, jl, ii, mu⟩
  refine a1l mu (a0g (a0a (a0d Y Y Y (a1f (e := 9) (cs := [vs [41]]) (q := 1) Y Y mt Y (fun _ => by kernel_rfl) Y Y ?_))))
  intro b11 ot mv
  obtain ⟨mk, ix, iz, hsx6⟩ := a5q mv (k := 5) rfl (i := 0) Y (by decide) ((show RowN Rp.str gs 1 [vs [41]] [[41]] from ⟨Y, ⟨_, _, Y, Y, (Y : RowR Rp.str _ [] [])⟩⟩))
  obtain ⟨v13, jn, hm⟩ := Yb hm
  refine a2n ent28 Y Y Y Y iz (i := 4) Y (a1x _ _ _ _ jn iz.sat (ii.mono ix) (iz.get (i := 4) Y) (iz.lendable (i := 4) Y) hsx6) ?_
  rintro _ ou _ _ ov mw ky ⟨ik, il, im, rfl, rfl, rfl, io⟩
  refine a0e (a0c (a0g (a0a (a0q ag24 sz24 Y Y ky Y (i := 1) Y Y (a0o sz24 Y ky Y Y Y Y (i := 3) Y Y Y Y ?_)))))
  intro ow mx
  refine a0e (a0c (a1c (a0t (a0j ?_))))
  obtain ⟨ox, my, kz, hsx7⟩ := a5q mx (k := 4) rfl (i := 0) Y (by decide) ((jl.mono ix).mono mw)
  refine a3h Y ag24 sz24 Y kz Y (i := 2) Y ?_
  obtain rfl := Yo hm
  exact ⟨_, _, _, _, Y, kz.Yp [3] Y Y, ik, il, im, hl, gy, hn, Y, Y, Y, (io.mono my), hsx7⟩
  clear hm
  refine a2f (SH it [.box b2 72 [.int .i64 v1.2.Kind, vs v1.2.Text, .int .i64 v1.2.N, .int .i64 v1.2.Pos], .box b1 24 [.int .i64 0, .int .i64 0, vs [], .slice none 0 0]]) 8 Y (by kernel_rfl) ms ?_
  intro oy R
  have S3 := R.Ys Yf [2, 3] Y Y
  refine d_tk 0 Y (by kernel_rfl) Y Y Y Y S3 (fun _ _ _ _ _ => a0f fa24_3 Y Y Y Yn) (d_tk 2 Y (by kernel_rfl) Y Y Y Y S3 (fun _ _ _ _ _ => a0d Y Y Y Yn) (b0p 1 3 Y Y (by kernel_rfl) ?_ ?_))
  refine a0n ag22 Y Y R Y (i := 1) Y Y (a0v S3 (a0z 3 Y (by kernel_rfl) ?_))
  obtain ⟨v14, ho, H⟩ := Yb H
  refine a2n ent30 Y Y Y Y R (i := 4) Y (ih.1 _ _ ho R.sat ie (R.get (i := 4) Y) (R.lendable (i := 4) Y)) ?_
  rintro _ j0 _ _ mz g gb ⟨j1, j2, j3, o, p, s, rfl, rfl, rfl, h3, gm⟩
  refine a0v (gb.Ys g [2, 3] Y Y) (a0z 4 Y (by kernel_rfl) (a1f (e := 24) (cs := [.int .i64 v14.2.Op, .int .i64 v14.2.N, vs v14.2.Name, .slice o p s]) (q := 4) Y Y gb Y (fun _ => by kernel_rfl) Y Y ?_))
  intro b12 l0 T
  refine a0v (T.Ys g [3, 4] Y Y) (a0z 5 Y (by kernel_rfl) ?_)
  obtain ⟨l3, jd, H⟩ := Yb H
  refine a4n (r := rp_Expr) ap22 Y Y T Y Y (i := 1) (j := 0) Y Y (((hf.mono gk).mono g2).mono g) ((show RowN rp_Expr j0 1 [.int .i64 v14.2.Op, .int .i64 v14.2.N, vs v14.2.Name, .slice o p s] [v14.2] from ⟨Y, ⟨_, _, Y, (expr_iff.2 ⟨o, p, s, Y, gm⟩), (Y : RowR rp_Expr _ [] [])⟩⟩)) jd ?_
  intro gp gq l5 L gr
  refine a0v (L.Ys g [3, 4] Y Y) (d_tk 6 Y (by kernel_rfl) Y Y Y Y (L.Ys g [3, 4] Y Y) (fun _ _ _ _ _ => a0f fa24_3 Y Y Y Yn) (a0z 7 Y (by kernel_rfl) (a0o sz22 Y L Y Y Y Y (i := 2) Y Y Y Y ?_)))
  intro l6 gc
  refine a0v (gc.Ys g [3, 4] Y Y) (a2u (by kernel_rfl) (a0k (fun a ha => ?_)))
  cases H
  exact ⟨_, gp, (g4 + 1), gq, (xss11 ++ [.int .i64 v14.2.Op, .int .i64 v14.2.N, vs v14.2.Name, .slice o p s]), j1, j2, j3, g, gc.Yp [1, 2, 3, 4, 5] Y Y, gr, h3, ha.cut (l := [0, 2, 6]) Y⟩
  obtain ⟨v14, ho, H⟩ := Yb H
  refine a2n ent30 Y Y Y Y R (i := 4) Y (ih.1 _ _ ho R.sat ie (R.get (i := 4) Y) (R.lendable (i := 4) Y)) ?_
  rintro _ j0 _ _ mz g gb ⟨j1, j2, j3, o, p, s, rfl, rfl, rfl, h3, gm⟩
  refine a0v (gb.Ys g [2, 3] Y Y) (b0p 1 4 Y Y (by kernel_rfl) ?_ ?_)
  refine a0n ag22 Y Y gb Y (i := 1) Y Y (a0v (gb.Ys g [2, 3] Y Y) (a0z 4 Y (by kernel_rfl) (a1f (e := 24) (cs := [.int .i64 v14.2.Op, .int .i64 v14.2.N, vs v14.2.Name, .slice o p s]) (q := 4) Y Y gb Y (fun _ => by kernel_rfl) Y Y ?_)))
  intro b12 l0 T
  refine a0v (T.Ys g [3, 4] Y Y) (a0z 5 Y (by kernel_rfl) ?_)
  obtain ⟨l3, jd, H⟩ := Yb H
  refine a4n (r := rp_Expr) ap22 Y Y T Y Y (i := 1) (j := 0) Y Y (((hf.mono gk).mono g2).mono g) ((show RowN rp_Expr j0 1 [.int .i64 v14.2.Op, .int .i64 v14.2.N, vs v14.2.Name, .slice o p s] [v14.2] from ⟨Y, ⟨_, _, Y, (expr_iff.2 ⟨o, p, s, Y, gm⟩), (Y : RowR rp_Expr _ [] [])⟩⟩)) jd ?_
  intro gp gq l5 L gr
  refine a0v (L.Ys g [3, 4] Y Y) (d_tk 6 Y (by kernel_rfl) Y Y Y Y (L.Ys g [3, 4] Y Y) (fun _ _ _ _ _ => a0f fa24_3 Y Y Y Yn) (a0z 7 Y (by kernel_rfl) (a0o sz22 Y L Y Y Y Y (i := 2) Y Y Y Y ?_)))
  intro l6 gc
  refine a0v (gc.Ys g [3, 4] Y Y) (a2u (by kernel_rfl) (a0k (fun a ha => ?_)))
  cases H
  exact ⟨_, gp, (g4 + 1), gq, (xss11 ++ [.int .i64 v14.2.Op, .int .i64 v14.2.N, vs v14.2.Name, .slice o p s]), j1, j2, j3, g, gc.Yp [1, 2, 3, 4, 5] Y Y, gr, h3, ha.cut (l := [0, 2, 6]) Y⟩
  refine a1f (e := 24) (cs := [.int .i64 v14.2.Op, .int .i64 v14.2.N, vs v14.2.Name, .slice o p s]) (q := 4) Y Y gb Y (fun _ => by kernel_rfl) Y Y ?_
  intro b12 l0 T
  refine a0v (T.Ys g [3, 4] Y Y) (a0z 1 Y (by kernel_rfl) (a0n ag22 Y Y T Y (i := 2) Y Y (a0v (T.Ys g [3, 4] Y Y) (a0z 5 Y (by kernel_rfl) ?_))))
  obtain ⟨l3, jd, H⟩ := Yb H
  refine a4n (r := rp_Expr) ap22 Y Y T Y Y (i := 1) (j := 0) Y Y (((hf.mono gk).mono g2).mono g) ((show RowN rp_Expr j0 1 [.int .i64 v14.2.Op, .int .i64 v14.2.N, vs v14.2.Name, .slice o p s] [v14.2] from ⟨Y, ⟨_, _, Y, (expr_iff.2 ⟨o, p, s, Y, gm⟩), (Y : RowR rp_Expr _ [] [])⟩⟩)) jd ?_
  intro gp gq l5 L gr
  refine a0v (L.Ys g [3, 4] Y Y) (d_tk 6 Y (by kernel_rfl) Y Y Y Y (L.Ys g [3, 4] Y Y) (fun _ _ _ _ _ => a0f fa24_3 Y Y Y Yn) (a0z 7 Y (by kernel_rfl) (a0o sz22 Y L Y Y Y Y (i := 2) Y Y Y Y ?_)))
  intro l6 gc
  refine a0v (gc.Ys g [3, 4] Y Y) (a2u (by kernel_rfl) (a0k (fun a ha => ?_)))
  cases H
  exact ⟨_, gp, (g4 + 1), gq, (xss11 ++ [.int .i64 v14.2.Op, .int .i64 v14.2.N, vs v14.2.Name, .slice o p s]), j1, j2, j3, g, gc.Yp [1, 2, 3, 4, 5] Y Y, gr, h3, ha.cut (l := [0, 2, 6]) Y⟩
  clear hm
  refine a2f (SH ij [.box b2 72 [.int .i64 v1.2.Kind, vs v1.2.Text, .int .i64 v1.2.N, .int .i64 v1.2.Pos], .box b1 24 [.int .i64 0, .int .i64 0, vs [], .slice none 0 0]]) 8 Y (by kernel_rfl) iw ?_
  intro oz U
  have S4 := U.Ys Yf [2, 3] Y Y
  refine d_tk 0 Y (by kernel_rfl) Y Y Y Y S4 (fun _ _ _ _ _ => a0f fa24_3 Y Y Y Yn) (d_tk 2 Y (by kernel_rfl) Y Y Y Y S4 (fun _ _ _ _ _ => a0d Y Y Y Yn) (b0p 1 3 Y Y (by kernel_rfl) ?_ ?_))
  refine a0n ag22 Y Y U Y (i := 1) Y Y (a0v S4 (a0z 3 Y (by kernel_rfl) ?_))
  obtain ⟨v15, hr, G⟩ := Yb G
  refine a2n ent30 Y Y Y Y U (i := 4) Y (ih.1 _ _ hr U.sat i3 (U.get (i := 4) Y) (U.lendable (i := 4) Y)) ?_
  rintro _ j4 _ _ o0 m gd ⟨g8, g9, ga, t, x, y, rfl, rfl, rfl, h5, h6⟩
  refine a0v (gd.Ys m [2, 3] Y Y) (a0z 4 Y (by kernel_rfl) (a1f (e := 24) (cs := [.int .i64 v15.2.Op, .int .i64 v15.2.N, vs v15.2.Name, .slice t x y]) (q := 4) Y Y gd Y (fun _ => by kernel_rfl) Y Y ?_))
  intro b13 l7 V
  refine a0v (V.Ys m [3, 4] Y Y) (a0z 5 Y (by kernel_rfl) ?_)
  obtain ⟨l4, je, G⟩ := Yb G
  refine a4n (r := rp_Expr) ap22 Y Y V Y Y (i := 1) (j := 0) Y Y ((show RowN rp_Expr _ 0 [] [] from ⟨Y, Y⟩).mono m) ((show RowN rp_Expr j4 1 [.int .i64 v15.2.Op, .int .i64 v15.2.N, vs v15.2.Name, .slice t x y] [v15.2] from ⟨Y, ⟨_, _, Y, (expr_iff.2 ⟨t, x, y, Y, h6⟩), (Y : RowR rp_Expr _ [] [])⟩⟩)) je ?_
  intro hx hy l8 M hz
  refine a0v (M.Ys m [3, 4] Y Y) (d_tk 6 Y (by kernel_rfl) Y Y Y Y (M.Ys m [3, 4] Y Y) (fun _ _ _ _ _ => a0f fa24_3 Y Y Y Yn) (a0z 7 Y (by kernel_rfl) (a0o sz22 Y M Y Y Y Y (i := 2) Y Y Y Y ?_)))
  intro l9 ge
  refine a0v (ge.Ys m [3, 4] Y Y) (a2u (by kernel_rfl) (a0k (fun a ha => ?_)))
  cases G
  exact ⟨_, hx, (0 + 1), hy, ([] ++ [.int .i64 v15.2.Op, .int .i64 v15.2.N, vs v15.2.Name, .slice t x y]), g8, g9, ga, m, ge.Yp [1, 2, 3, 4, 5] Y Y, hz, h5, ha.cut (l := [0, 2, 6]) Y⟩
  obtain ⟨v15, hr, G⟩ := Yb G
  refine a2n ent30 Y Y Y Y U (i := 4) Y (ih.1 _ _ hr U.sat i3 (U.get (i := 4) Y) (U.lendable (i := 4) Y)) ?_
  rintro _ j4 _ _ o0 m gd ⟨g8, g9, ga, t, x, y, rfl, rfl, rfl, h5, h6⟩
  refine a0v (gd.Ys m [2, 3] Y Y) (b0p 1 4 Y Y (by kernel_rfl) ?_ ?_)
  refine a0n ag22 Y Y gd Y (i := 1) Y Y (a0v (gd.Ys m [2, 3] Y Y) (a0z 4 Y (by kernel_rfl) (a1f (e := 24) (cs := [.int .i64 v15.2.Op, .int .i64 v15.2.N, vs v15.2.Name, .slice t x y]) (q := 4) Y Y gd Y (fun _ => by kernel_rfl) Y Y ?_)))
  intro b13 l7 V
  refine a0v (V.Ys m [3, 4] Y Y) (a0z 5 Y (by kernel_rfl) ?_)
  obtain ⟨l4, je, G⟩ := Yb G
  refine a4n (r := rp_Expr) ap22 Y Y V Y Y (i := 1) (j := 0) Y Y ((show RowN rp_Expr _ 0 [] [] from ⟨Y, Y⟩).mono m) ((show RowN rp_Expr j4 1 [.int .i64 v15.2.Op, .int .i64 v15.2.N, vs v15.2.Name, .slice t x y] [v15.2] from ⟨Y, ⟨_, _, Y, (expr_iff.2 ⟨t, x, y, Y, h6⟩), (Y : RowR rp_Expr _ [] [])⟩⟩)) je ?_
  intro hx hy l8 M hz
  refine a0v (M.Ys m [3, 4] Y Y) (d_tk 6 Y (by kernel_rfl) Y Y Y Y (M.Ys m [3, 4] Y Y) (fun _ _ _ _ _ => a0f fa24_3 Y Y Y Yn) (a0z 7 Y (by kernel_rfl) (a0o sz22 Y M Y Y Y Y (i := 2) Y Y Y Y ?_)))
  intro l9 ge
  refine a0v (ge.Ys m [3, 4] Y Y) (a2u (by kernel_rfl) (a0k (fun a ha => ?_)))
  cases G
  exact ⟨_, hx, (0 + 1), hy, ([] ++ [.int .i64 v15.2.Op, .int .i64 v15.2.N, vs v15.2.Name, .slice t x y]), g8, g9, ga, m, ge.Yp [1, 2, 3, 4, 5] Y Y, hz, h5, ha.cut (l := [0, 2, 6]) Y⟩
  refine a1f (e := 24) (cs := [.int .i64 v15.2.Op, .int .i64 v15.2.N, vs v15.2.Name, .slice t x y]) (q := 4) Y Y gd Y (fun _ => by kernel_rfl) Y Y ?_
  intro b13 l7 V
  refine a0v (V.Ys m [3, 4] Y Y) (a0z 1 Y (by kernel_rfl) (a0n ag22 Y Y V Y (i := 2) Y Y (a0v (V.Ys m [3, 4] Y Y) (a0z 5 Y (by kernel_rfl) ?_))))
  obtain ⟨l4, je, G⟩ := Yb G
  refine a4n (r := rp_Expr) ap22 Y Y V Y Y (i := 1) (j := 0) Y Y ((show RowN rp_Expr _ 0 [] [] from ⟨Y, Y⟩).mono m) ((show RowN rp_Expr j4 1 [.int .i64 v15.2.Op, .int .i64 v15.2.N, vs v15.2.Name, .slice t x y] [v15.2] from ⟨Y, ⟨_, _, Y, (expr_iff.2 ⟨t, x, y, Y, h6⟩), (Y : RowR rp_Expr _ [] [])⟩⟩)) je ?_
  intro hx hy l8 M hz
  refine a0v (M.Ys m [3, 4] Y Y) (d_tk 6 Y (by kernel_rfl) Y Y Y Y (M.Ys m [3, 4] Y Y) (fun _ _ _ _ _ => a0f fa24_3 Y Y Y Yn) (a0z 7 Y (by kernel_rfl) (a0o sz22 Y M Y Y Y Y (i := 2) Y Y Y Y ?_)))
  intro l9 ge
  refine a0v (ge.Ys m [3, 4] Y Y) (a2u (by kernel_rfl) (a0k (fun a ha => ?_)))
  cases G
  exact ⟨_, hx, (0 + 1), hy, ([] ++ [.int .i64 v15.2.Op, .int .i64 v15.2.N, vs v15.2.Name, .slice t x y]), g8, g9, ga, m, ge.Yp [1, 2, 3, 4, 5] Y Y, hz, h5, ha.cut (l := [0, 2, 6]) Y⟩
  clear hm
  rcases a0h hw with ⟨ju, hw⟩ | ⟨ju, hw⟩
  refine a0r 81 Y ju (a0x Y (a0a (a0f fa24_0 Y Y Y (a0o sz3 Y gl Y Y Y Y (i := 0) Y Y Y Y ?_))))
  intro p0 o1
  refine a0e (a0k (fun a ha => ?_))
  cases hw
  exact ⟨_, Yf, o1.Yp [0, 1, 2, 3] Y Y, ha.cut (l := [0, 2, 6]) Y⟩
  refine a0r 81 Y ju (a0p Y (a1b (a0k (fun a ha => ?_))))
  cases hw
  exact ⟨_, Yf, gl.Yp [0, 1, 2, 3] Y Y, ha.cut (l := [0, 2, 6]) Y⟩
  refine a0r 75 Y jt (a0p Y (a1b (a1o (a0c (a0g (a0a (a0d Y Y Y (a9p Y Y Y (a0f fa69_1 Y Y Y (a0n ag3 Y Y g0 Y (i := 2) Y Y (a0u Y Y Y Y Y (a9p Y Y Y ?_))))))))))))
  refine a0f fa69_1 Y Y Y (a0o sz3 Y g0 Y Y Y Y (i := 2) Y Y Y Y ?_)
  intro p1 j5
  refine a0e (a0c (a0g (a0a (a0d Y Y Y ?_))))
  obtain ⟨v16, jq, hm⟩ := Yb hm
  refine a2n ent33 Y Y Y Y j5 (i := 2) Y (a3z _ _ _ _ jq j5.sat g3 (j5.get (i := 2) Y) (j5.lendable (i := 2) Y)) ?_
  rintro _ p2 _ _ p3 p4 o2 ⟨o3, o4, o5, rfl, rfl, rfl, o6⟩
  refine a0e (a0c (a0g (a0a (a1r (v := .agg #[.int .i64 0, .int .i64 0, vs [], .slice none 0 0]) Y Y Y (fun _ => by kernel_rfl) (a0o sz24 Y o2 Y Y Y Y (i := 1) Y Y Y Y ?_)))))
  intro p5 la
  refine a0e (a0c (a1c (a3h Y ag24 sz24 Y la Y (i := 1) Y ?_)))
  obtain rfl := Yo hm
  exact ⟨_, _, _, _, Y, la.Yp [2] Y Y, o3, o4, o5, none, 0, 0, Y, Y, Y, o6, SlR.nil _ _⟩
  clear hm
  rcases a0h hv with ⟨jv, hv⟩ | ⟨jv, hv⟩
  refine a0r 75 Y jv (a0x Y (a1b (a0k (fun a ha => ?_))))
  cases hv
  exact ⟨Y, ha.cut (l := [0, 2, 3, 75]) Y⟩
  refine a0r 75 Y jv (a0p Y (a0a (b4m Y Y Y Y Y (a0b Y Y Y (a0e (a0k (fun a ha => ?_)))))))
  cases hv
  exact ⟨Y, ha.cut (l := [0, 2, 3, 75]) Y⟩
  clear hm
  rcases a0h jb with ⟨jw, jb⟩ | ⟨jw, jb⟩
  refine a0r 56 Y jw (a0x Y (a1b (a0k (fun a ha => ?_))))
  cases jb
  exact ⟨Y, ha.cut (l := [0, 2, 3, 41, 56]) Y⟩
  refine a0r 56 Y jw (a0p Y (a0a (b4m Y Y Y Y Y (a0b Y Y Y (a0e (a0k (fun a ha => ?_)))))))
  cases jb
  exact ⟨Y, ha.cut (l := [0, 2, 3, 41, 56]) Y⟩
  clear hm
  rcases a0h gu with ⟨jx, gu⟩ | ⟨jx, gu⟩
  refine a1k 25 Y jx (a0f fa72_0 Y Y Y (a0n ag3 Y Y Z Y (i := 0) Y Y (a0u Y Y Y Y Y (a0s Y Y Y Y (a0e (a0k (fun a ha => ?_)))))))
  cases gu
  exact ⟨Y, ha.cut (l := [0, 2, 3, 29]) Y⟩
  refine a1k 25 Y jx (a0y Y (by decide) Y (a0y Y (by decide) Y (a0y Y (by decide) Y (a0m Y Y Y Y (a0e (a0k (fun a ha => ?_)))))))
  cases gu
  exact ⟨Y, ha.cut (l := [0, 2, 3, 29]) Y⟩
theorem b4a (n : Nat) (rx1 : reader) (r : (reader × Expr)) (hm : tariff_reader_expr n rx1 = some r) {w : World} {F : Frz} (hs : Sat F w) {g : Option Addr} {h : Nat} {i : Nat} {brx1 : Nat} (j : SlR rp_Token F g h i rx1.l) (hbrx1 : (OE.box brx1 69 [.slice g h i, .int .i64 rx1.at_, .int .i64 rx1.e]).ok w) (hfrx1 : F brx1 = none) :
  Calls Tryz.prog 30 #[.pointer (some ⟨brx1, 0, none⟩)] w fun e w' => ∃ v F' cs' O', e = .returned v ∧ HS F w [brx1] F' (.box brx1 69 cs' :: O') w' ∧ (∃ (al_0 : Option Addr) (nl_0 : Nat) (cl_0 : Nat) (a0_3 : Option Addr) (n0_3 : Nat) (c0_3 : Nat), v = .agg #[.int .i64 r.2.Op, .int .i64 r.2.N, vs r.2.Name, .slice a0_3 n0_3 c0_3] ∧ cs' = [.slice al_0 nl_0 cl_0, .int .i64 r.1.at_, .int .i64 r.1.e] ∧ O' = [] ∧ SlR rp_Token F' al_0 nl_0 cl_0 r.1.l ∧ SlR rp_Expr F' a0_3 n0_3 c0_3 r.2.Args) :=
 (b3q n).1 rx1 r hm hs j hbrx1 hfrx1
theorem ze26 : b9o Tryz.prog 26 (.agg #[vs [], .int .i64 0, .int .i64 0, vs [], .slice none 0 0, .int .i64 0]) := fun _ => by kernel_rfl
theorem ent27 : Ent Tryz.prog 27 := fun _ _ => by kernel_rfl
def a9c (n : Nat) (s1 : Bs) : Option (Tariff × Int × Int) :=
 (b1f n s1).bind fun v1 =>
 bif v1.2.2 != 0 then
  some ((⟨[], (⟨0, 0, [], []⟩ : Expr), 0⟩ : Tariff), v1.2.1, v1.2.2)
 else
  (a1i n (⟨v1.1, 0, 0⟩ : reader) [[116, 97, 114, 105, 102, 102]]).bind fun v2 =>
  (a4a n v2 0).bind fun v3 =>
  (a1i n v3.1 [[123], [102, 101, 101], [61]]).bind fun v4 =>
  (tariff_reader_expr n v4).bind fun v5 =>
  (a5o n v5.1 [59]).bind fun v6 =>
  (bif v6.2 then
   (tariff_sized n v5.2 10 100).bind fun v16 =>
   some (!v16.2, v16.1)
  else
   some (false, 100)).bind fun (v7, _) =>
  (bif v7 then
   (a2q n v6.1 6).bind fun v15 =>
   some (v15.l, v15.at_, v15.e)
  else
   some (v6.1.l, v6.1.at_, v6.1.e)).bind fun (f2, f3, f4) =>
  (a1i n (⟨f2, f3, f4⟩ : reader) [[59]]).bind fun v8 =>
  (a2a n v8 [99, 97, 112]).bind fun v9 =>
  (bif v9.2 then
   (a1i n v9.1 [[61]]).bind fun v12 =>
   (a4a n v12 1).bind fun v13 =>
   (a1i n v13.1 [[59]]).bind fun v14 =>
   some (v13.2.N, v14.l, v14.at_, v14.e)
  else
   some ((-1), v9.1.l, v9.1.at_, v9.1.e)).bind fun (f5, f6, f7, f8) =>
  (a1i n (⟨f6, f7, f8⟩ : reader) [[125]]).bind fun v10 =>
  (bif decide (v10.at_ < (v1.1.length : Int)) then
   (a2q n v10 12).bind fun v11 =>
   some (v11.l, v11.at_, v11.e)
  else
   some (v10.l, v10.at_, v10.e)).bind fun (_, f10, f11) =>
  bif f11 == 0 then
   some ((⟨v3.2.Text, v5.2, f5⟩ : Tariff), 0, 0)
  else
   bif decide (f10 < (v1.1.length : Int)) then
    (ix v1.1 f10).bind fun ex1 =>
    some ((⟨[], (⟨0, 0, [], []⟩ : Expr), 0⟩ : Tariff), ex1.Pos, f11)
   else
    some ((⟨[], (⟨0, 0, [], []⟩ : Expr), 0⟩ : Tariff), (s1.length : Int), f11)
theorem b9n (n : Nat) (s1 : Bs) (r : (Tariff × Int × Int)) (hm : a9c n s1 = some r) {w : World} {F : Frz} (hs : Sat F w) (hg0 : FX F 0 [.int .u8 40, .int .u8 41, .int .u8 44, .int .u8 59, .int .u8 58, .int .u8 61, .int .u8 60, .int .u8 43, .int .u8 45, .int .u8 42, .int .u8 47, .int .u8 123, .int .u8 125]) :
  Calls Tryz.prog 9 #[vs s1] w fun e w' => ∃ v F' O', e = .returned v ∧ HS F w [] F' O' w' ∧ (∃ (a0_4 : Option Addr) (n0_4 : Nat) (c0_4 : Nat), v = .tuple #[.agg #[vs r.1.Name, .int .i64 r.1.Fee.Op, .int .i64 r.1.Fee.N, vs r.1.Fee.Name, .slice a0_4 n0_4 c0_4, .int .i64 r.1.Cap], .int .i64 r.2.1, .int .i64 r.2.2] ∧ O' = [] ∧ SlR rp_Expr F' a0_4 n0_4 c0_4 r.1.Fee.Args) := by
 unfold a9c at hm
 have h := HS.init hs
 refine a1a 110 Tryz.func9 Y Y Y (a0g (a0a (a1h ze26 Y Y Y h ?_)))
 intro b1 lk h9
 refine a0b Y Y Y (a0b Y Y Y (a0e (a0c (a0g (a0a (a0d Y Y Y ?_))))))
 obtain ⟨v1, jb, hm⟩ := Yb hm
 refine a0i ent27 Y Y Y Y h9 (c2z _ _ _ jb h9.sat hg0) ?_
 rintro _ jc _ ll lm hb ⟨g3, g4, g5, rfl, rfl, gf⟩
 refine a0d Y Y Y (a0l Y Y Y Y (a0l Y Y Y Y (a0l Y Y Y Y (a0b Y Y Y (a0b Y Y Y (a0b Y Y Y (a0e (a0c (a0g (a0g (a0a (a0d Y Y Y (a0u Y Y Y Y Y (a0e (a0c ?_)))))))))))))))
 rcases a0h hm with ⟨gk, hm⟩ | ⟨gk, hm⟩
 refine a0r 18 Y gk (a0x Y (a0g (a0a (a1r (v := .agg #[vs [], .int .i64 0, .int .i64 0, vs [], .slice none 0 0, .int .i64 0]) Y Y Y (fun _ => by kernel_rfl) (a0d Y Y Y (a0d Y Y Y (a0o sz26 Y hb Y Y Y Y (i := 0) Y Y Y Y ?_)))))))
 intro ln hc
 refine a0b Y Y Y (a0b Y Y Y (a0e (a0c (a1c (a0j (a1q (vl := [.agg #[vs [], .int .i64 0, .int .i64 0, vs [], .slice none 0 0, .int .i64 0], .int .i64 v1.2.1, .int .i64 v1.2.2]) Y ⟨a2h ag26 sz26 Y hc Y (i := 0) Y, a1p Y, a1p Y, trivial⟩ (by simp) ?_))))))
 obtain rfl := Yo hm
 exact ⟨_, _, _, Y, hc.Yp [] Y Y, none, 0, 0, Y, Y, SlR.nil _ _⟩
 refine a0r 18 Y gk (a0p Y (a1b (a0c (a0g (a0a (a0d Y Y Y (a1r (v := .agg #[.slice g3 g4 g5, .int .i64 0, .int .i64 0]) Y Y Y (fun _ => by kernel_rfl) (a2z Y Y Y Y hb ?_))))))))
 intro b2 lo jd
 refine a0b Y Y Y (a0e (a0c (a0g (a0a (a0d Y Y Y (a1f (e := 9) (cs := [vs [116, 97, 114, 105, 102, 102]]) (q := 1) Y Y jd Y (fun _ => by kernel_rfl) Y Y ?_))))))
 intro b3 lp je
 obtain ⟨lq, hd, gg, hsx1⟩ := a1g je (i := 0) Y ((show RowN Rp.str jc 1 [vs [116, 97, 114, 105, 102, 102]] [[116, 97, 114, 105, 102, 102]] from ⟨Y, ⟨_, _, Y, Y, (Y : RowR Rp.str _ [] [])⟩⟩))
 obtain ⟨v2, jf, hm⟩ := Yb hm
 refine a2n ent28 Y Y Y Y gg (i := 0) Y (a1x _ _ _ _ jf gg.sat (gf.mono hd) (gg.get (i := 0) Y) (gg.lendable (i := 0) Y) hsx1) ?_
 rintro _ lr _ _ ls jg gh ⟨lt, lu, lv, rfl, rfl, rfl, jh⟩
 refine a0e (a0c (a0g (a0a (a0d Y Y Y ?_))))
 obtain ⟨v3, ji, hm⟩ := Yb hm
 refine a2n ent29 Y Y Y Y gh (i := 0) Y (a8m _ _ _ _ ji gh.sat jh (gh.get (i := 0) Y) (gh.lendable (i := 0) Y)) ?_
 rintro _ jj _ _ lw jk jl ⟨lx, ly, lz, rfl, rfl, rfl, jm⟩
 refine c5b (v := .agg #[.int .i64 v3.2.Kind, vs v3.2.Text, .int .i64 v3.2.N, .int .i64 v3.2.Pos]) (u := vs v3.2.Text) (fun _ => by kernel_rfl) Y Y Y (a1r (v := .agg #[vs v3.2.Text, .int .i64 0, .int .i64 0, vs [], .slice none 0 0, .int .i64 (-1)]) Y Y Y (fun _ => by kernel_rfl) (a1h ze26 Y Y Y jl ?_))
 intro b4 m0 jn
 refine a0o sz26 Y jn Y Y Y Y (i := 0) Y Y Y Y ?_
 intro m1 hk
 refine a0e (a0c (a0g (a0a (a0d Y Y Y (a1f (e := 9) (cs := [vs [123], vs [102, 101, 101], vs [61]]) (q := 1) Y Y hk Y (fun _ => by kernel_rfl) Y Y ?_)))))
 intro b5 k5 hl
 obtain ⟨m2, he, Q, hsx2⟩ := a1g hl (i := 0) Y ((show RowN Rp.str jj 3 [vs [123], vs [102, 101, 101], vs [61]] [[123], [102, 101, 101], [61]] from ⟨Y, ⟨_, _, Y, Y, ⟨_, _, Y, Y, ⟨_, _, Y, Y, (Y : RowR Rp.str _ [] [])⟩⟩⟩⟩))
 obtain ⟨v4, jo, hm⟩ := Yb hm
 refine a2n ent28 Y Y Y Y Q (i := 1) Y (a1x _ _ _ _ jo Q.sat (jm.mono he) (Q.get (i := 1) Y) (Q.lendable (i := 1) Y) hsx2) ?_
 rintro _ m3 _ _ k6 jp R ⟨m4, m5, m6, rfl, rfl, rfl, jq⟩
 refine a0e (a0c (a0g (a0a (a0d Y Y Y ?_))))
 obtain ⟨v5, jr, hm⟩ := Yb hm
 refine a2n ent30 Y Y Y Y R (i := 1) Y (b4a _ _ _ jr R.sat jq (R.get (i := 1) Y) (R.lendable (i := 1) Y)) ?_
 rintro _ m7 _ _ k7 js hn ⟨m8, m9, ma, k, m, o, rfl, rfl, rfl, jt, hf⟩
 refine a0f fa26_1 Y Y Y (a0o sz24 Y hn Y Y Y Y (i := 0) Y Y Y Y ?_)
 intro k8 ho
 refine a0e (a0c (a0g (a0g (a0a (a1h ze3 Y Y Y ho ?_)))))
 intro b6 k9 hp
 refine a0o sz3 Y hp Y Y Y Y (i := 0) Y Y Y Y ?_
 intro ka T
 refine a0e (a0c (a0g (a0a (a0d Y Y Y ?_))))
 obtain ⟨v6, ju, hm⟩ := Yb hm
 refine a2n ent31 Y Y Y Y T (i := 2) Y (b1r _ _ _ _ ju T.sat jt (T.get (i := 2) Y) (T.lendable (i := 2) Y)) ?_
 rintro _ jv _ _ kb gl p ⟨hg, hh, hi, rfl, rfl, rfl, hj⟩
 refine a0d Y Y Y ?_
 obtain ⟨⟨v7, f1⟩, y, hm⟩ := Yb hm
 refine a2g 5 (fun a w' => ∃ (gi : Frz), Frz.le jv gi ∧ HS F w [] gi [.box b6 3 [.int .i64 f1], .box b4 26 [vs v3.2.Text, .int .i64 v5.2.Op, .int .i64 v5.2.N, vs v5.2.Name, .slice k m o, .int .i64 (-1)], .box b2 69 [.slice hg hh hi, .int .i64 v6.1.at_, .int .i64 v6.1.e], .box b1 26 [vs [], .int .i64 0, .int .i64 0, vs [], .slice none 0 0, .int .i64 0]] w' ∧ Has 110 a [(0, vs s1), (2, .pointer (some ⟨b1, 0, none⟩)), (5, .slice g3 g4 g5), (8, .pointer (some ⟨b2, 0, none⟩)), (9, .pointer (some ⟨b4, 0, none⟩)), (45, .bool v7)]) ?_ ?_
 rintro a kc ⟨gi, gj, z, hr⟩
 refine a1d hr (a0e (a0c ?_))
 obtain ⟨⟨f2, f3, f4⟩, G, hm⟩ := Yb hm
 refine a6f (fun a w' => ∃ (H : Frz) (gm : Option Addr) (gn : Nat) (go : Nat), Frz.le gi H ∧ HS F w [] H [.box b6 3 [.int .i64 f1], .box b4 26 [vs v3.2.Text, .int .i64 v5.2.Op, .int .i64 v5.2.N, vs v5.2.Name, .slice k m o, .int .i64 (-1)], .box b2 69 [.slice gm gn go, .int .i64 f3, .int .i64 f4], .box b1 26 [vs [], .int .i64 0, .int .i64 0, vs [], .slice none 0 0, .int .i64 0]] w' ∧ (SlR rp_Token H gm gn go f2) ∧ Has 110 a [(0, vs s1), (2, .pointer (some ⟨b1, 0, none⟩)), (5, .slice g3 g4 g5), (8, .pointer (some ⟨b2, 0, none⟩)), (9, .pointer (some ⟨b4, 0, none⟩))]) ?_ ?_
 rintro a kd ⟨H, gm, gn, go, gp, ht, jw, hu⟩
 refine a1l hu (a0g (a0a (a0d Y Y Y (a1f (e := 9) (cs := [vs [59]]) (q := 1) Y Y ht Y (fun _ => by kernel_rfl) Y Y ?_))))
 intro b7 ke hv
 obtain ⟨kf, g6, U, hsx3⟩ := a1g hv (i := 0) Y ((show RowN Rp.str H 1 [vs [59]] [[59]] from ⟨Y, ⟨_, _, Y, Y, (Y : RowR Rp.str _ [] [])⟩⟩))
 obtain ⟨v8, jx, hm⟩ := Yb hm
 refine a2n ent28 Y Y Y Y U (i := 2) Y (a1x _ _ _ _ jx U.sat (jw.mono g6) (U.get (i := 2) Y) (U.lendable (i := 2) Y) hsx3) ?_
 rintro _ kg _ _ kh gq V ⟨ki, kj, kk, rfl, rfl, rfl, hw⟩
 refine a0e (a0c (a0g (a0g (a0a (a0d Y Y Y ?_)))))
 obtain ⟨v9, jy, hm⟩ := Yb hm
 refine a2n ent34 Y Y Y Y V (i := 2) Y (a4l _ _ _ _ jy V.sat hw (V.get (i := 2) Y) (V.lendable (i := 2) Y)) ?_
 rintro _ gr _ _ kl gs gt ⟨hx, hy, hz, rfl, rfl, rfl, gu⟩
 refine a0e (a0c ?_)
 obtain ⟨⟨f5, f6, f7, f8⟩, g, hm⟩ := Yb hm
 refine a6f (fun a w' => ∃ (I : Frz) (g7 : Option Addr) (g8 : Nat) (g9 : Nat), Frz.le gr I ∧ HS F w [] I [.box b6 3 [.int .i64 f1], .box b4 26 [vs v3.2.Text, .int .i64 v5.2.Op, .int .i64 v5.2.N, vs v5.2.Name, .slice k m o, .int .i64 f5], .box b2 69 [.slice g7 g8 g9, .int .i64 f7, .int .i64 f8], .box b1 26 [vs [], .int .i64 0, .int .i64 0, vs [], .slice none 0 0, .int .i64 0]] w' ∧ (SlR rp_Token I g7 g8 g9 f6) ∧ Has 110 a [(0, vs s1), (2, .pointer (some ⟨b1, 0, none⟩)), (5, .slice g3 g4 g5), (8, .pointer (some ⟨b2, 0, none⟩)), (9, .pointer (some ⟨b4, 0, none⟩))]) ?_ ?_
 rintro a km ⟨I, g7, g8, g9, gv, i0, i1, i2⟩
 refine a1l i2 (a0g (a0a (a0d Y Y Y (a1f (e := 9) (cs := [vs [125]]) (q := 1) Y Y i0 Y (fun _ => by kernel_rfl) Y Y ?_))))
 intro b8 kn i3
 obtain ⟨ko, ga, Z, hsx4⟩ := a1g i3 (i := 0) Y ((show RowN Rp.str I 1 [vs [125]] [[125]] from ⟨Y, ⟨_, _, Y, Y, (Y : RowR Rp.str _ [] [])⟩⟩))
 obtain ⟨v10, jz, hm⟩ := Yb hm
 refine a2n ent28 Y Y Y Y Z (i := 2) Y (a1x _ _ _ _ jz Z.sat (i1.mono ga) (Z.get (i := 2) Y) (Z.lendable (i := 2) Y) hsx4) ?_
 rintro _ i4 _ _ kp gw s ⟨i5, i6, i7, rfl, rfl, rfl, gx⟩
 refine a0e (a0c (a0g (a0g (a0a (a0d Y Y Y (a9p Y Y Y (a0f fa69_1 Y Y Y (a0n ag3 Y Y s Y (i := 2) Y Y (a0d Y Y Y (a1y gf.len u64 Y Y Y (a0u Y Y Y Y Y ?_)))))))))))
 refine a0e (a0c ?_)
 obtain ⟨⟨f9, f10, f11⟩, J, hm⟩ := Yb hm
 refine a6f (fun a w' => ∃ (t : Frz) (K : Option Addr) (L : Nat) (M : Nat), Frz.le i4 t ∧ HS F w [] t [.box b6 3 [.int .i64 f1], .box b4 26 [vs v3.2.Text, .int .i64 v5.2.Op, .int .i64 v5.2.N, vs v5.2.Name, .slice k m o, .int .i64 f5], .box b2 69 [.slice K L M, .int .i64 f10, .int .i64 f11], .box b1 26 [vs [], .int .i64 0, .int .i64 0, vs [], .slice none 0 0, .int .i64 0]] w' ∧ (SlR rp_Token t K L M f9) ∧ Has 110 a [(0, vs s1), (2, .pointer (some ⟨b1, 0, none⟩)), (5, .slice g3 g4 g5), (8, .pointer (some ⟨b2, 0, none⟩)), (9, .pointer (some ⟨b4, 0, none⟩))]) ?_ ?_
 rintro a kq ⟨t, K, L, M, gy, x, kr, i8⟩
 refine a1l i8 (a0g (a1j (a0g (a0a (a0d Y Y Y (a9p Y Y Y (a0f fa69_2 Y Y Y (a0n ag38 Y Y x Y (i := 2) Y Y (a0u Y Y Y Y Y (a0b Y Y Y (a0e (a0c ?_))))))))))))
 rcases a0h hm with ⟨gz, hm⟩ | ⟨gz, hm⟩
 refine a0r 75 Y gz (a0x Y (a0g (a0a (a0q ag26 sz26 Y Y x Y (i := 1) Y Y (a0o sz26 Y x Y Y Y Y (i := 3) Y Y Y Y ?_)))))
 intro ks h0
 refine a0b Y Y Y (a0b Y Y Y (a0e (a0c (a1c (a0t (a0j (a1q (vl := [.agg #[vs v3.2.Text, .int .i64 v5.2.Op, .int .i64 v5.2.N, vs v5.2.Name, .slice k m o, .int .i64 f5], .int .i64 0, .int .i64 0]) Y ⟨a2h ag26 sz26 Y h0 Y (i := 3) Y, a1p Y, a1p Y, trivial⟩ (by simp) ?_)))))))
 obtain rfl := Yo hm
 exact ⟨_, _, _, Y, h0.Yp [] Y Y, k, m, o, Y, Y, ((((((((((hf.mono gl).mono gj).mono gp).mono g6).mono gq).mono gs).mono gv).mono ga).mono gw).mono gy)⟩
 refine a0r 75 Y gz (a0p Y (a0g (a0a (a0d Y Y Y (a9p Y Y Y (a0f fa69_1 Y Y Y (a0n ag3 Y Y x Y (i := 2) Y Y (a0d Y Y Y (a1y gf.len u64 Y Y Y ?_)))))))))
 refine a0u Y Y Y Y Y (a0b Y Y Y (a0e (a0c ?_)))
 rcases a0h hm with ⟨h1, hm⟩ | ⟨h1, hm⟩
 refine a0r 82 Y h1 (a0x Y (a0g (a2f (SH t [.box b6 3 [.int .i64 f1], .box b4 26 [vs v3.2.Text, .int .i64 v5.2.Op, .int .i64 v5.2.N, vs v5.2.Name, .slice k m o, .int .i64 f5], .box b2 69 [.slice K L M, .int .i64 f10, .int .i64 f11], .box b1 26 [vs [], .int .i64 0, .int .i64 0, vs [], .slice none 0 0, .int .i64 0]]) 16 Y (by kernel_rfl) x ?_)))
 intro kt h2
 have S0 := h2.Ys Yf [0, 1, 2, 3] Y Y
 refine d_tk 0 Y (by kernel_rfl) Y Y Y Y S0 (fun _ _ _ _ _ => a1r (v := .agg #[vs [], .int .i64 0, .int .i64 0, vs [], .slice none 0 0, .int .i64 0]) Y Y Y (fun _ => by kernel_rfl) Yn) (d_tk 1 Y (by kernel_rfl) Y Y Y Y S0 (fun _ _ _ _ _ => a0d Y Y Y Yn) (d_tk 2 Y (by kernel_rfl) Y Y Y Y S0 (fun _ _ _ _ _ => a0d Y Y Y Yn) (c3f 3 Y (by kernel_rfl) (by kernel_rfl) (by kernel_rfl) Y Y Y S0 (d_tk 4 Y (by kernel_rfl) Y Y Y Y S0 (fun _ _ _ _ _ => a0f fa69_1 Y Y Y Yn) (d_tk 5 Y (by kernel_rfl) Y Y Y Y S0 (fun _ _ _ _ hq => a0n ag3 Y Y hq Y (i := 2) Y Y Yn) ?_)))))
 obtain ⟨ex1, k0, hm⟩ := Yb hm
 obtain ⟨b9, o1, k1, k2, k3, h8⟩ := a2k (P := Tryz.prog) (r := rp_Token) u64 sz72 ((((((((((((((((gf.mono hd).mono jg).mono jk).mono he).mono jp).mono js).mono gl).mono gj).mono gp).mono g6).mono gq).mono gs).mono gv).mono ga).mono gw).mono gy) k0
 have k4 : k1 = [.int .i64 ex1.Kind, vs ex1.Text, .int .i64 ex1.N, .int .i64 ex1.Pos] := k3
 subst k4
 refine b1u 6 Y (by kernel_rfl) (by kernel_rfl) (by kernel_rfl) Y Y Y Y h8 S0 (d_tk 7 Y (by kernel_rfl) Y Y Y Y S0 (fun _ _ _ _ _ => a0f fa72_3 Y Y Y Yn) (d_tk 8 Y (by kernel_rfl) Y Y Y Y S0 (fun _ _ _ hleq hq => a2j (j := 3) ag3 Y Y hq (k2.mono hleq) Y Y Yn) (d_tk 9 Y (by kernel_rfl) Y Y Y Y S0 (fun _ _ _ _ _ => a0d Y Y Y Yn) (c3f 10 Y (by kernel_rfl) (by kernel_rfl) (by kernel_rfl) Y Y Y S0 (d_tk 11 Y (by kernel_rfl) Y Y Y Y S0 (fun _ _ _ _ _ => a0f fa69_2 Y Y Y Yn) (d_tk 12 Y (by kernel_rfl) Y Y Y Y S0 (fun _ _ _ _ hq => a0n ag38 Y Y hq Y (i := 2) Y Y Yn) ?_))))))
 refine a0z 13 Y (by kernel_rfl) (a0o sz26 Y h2 Y Y Y Y (i := 3) Y Y Y Y ?_)
 intro ku gb
 have S1 := gb.Ys Yf [0, 1, 2, 3] Y Y
 refine a0v S1 (d_tk 14 Y (by kernel_rfl) Y Y Y Y S1 (fun _ _ _ _ _ => a0b Y Y Y Yn) (d_tk 15 Y (by kernel_rfl) Y Y Y Y S1 (fun _ _ _ _ _ => a0b Y Y Y Yn) (a2u (by kernel_rfl) (a0c (a1c (a0t (a0j (a1q (vl := [.agg #[vs [], .int .i64 0, .int .i64 0, vs [], .slice none 0 0, .int .i64 0], .int .i64 ex1.Pos, .int .i64 f11]) Y ⟨a2h ag26 sz26 Y gb Y (i := 3) Y, a1p Y, a1p Y, trivial⟩ (by simp) ?_))))))))
 obtain rfl := Yo hm
 exact ⟨_, _, _, Y, gb.Yp [] Y Y, none, 0, 0, Y, Y, SlR.nil _ _⟩
 refine a0r 82 Y h1 (a0p Y (a1b (a1o (a0c (a0g (a2f (SH t [.box b6 3 [.int .i64 f1], .box b4 26 [vs v3.2.Text, .int .i64 v5.2.Op, .int .i64 v5.2.N, vs v5.2.Name, .slice k m o, .int .i64 f5], .box b2 69 [.slice K L M, .int .i64 f10, .int .i64 f11], .box b1 26 [vs [], .int .i64 0, .int .i64 0, vs [], .slice none 0 0, .int .i64 0]]) 10 Y (by kernel_rfl) x ?_))))))
 intro kv h3
 have S2 := h3.Ys Yf [0, 1, 2, 3] Y Y
 refine d_tk 0 Y (by kernel_rfl) Y Y Y Y S2 (fun _ _ _ _ _ => a1r (v := .agg #[vs [], .int .i64 0, .int .i64 0, vs [], .slice none 0 0, .int .i64 0]) Y Y Y (fun _ => by kernel_rfl) Yn) (d_tk 1 Y (by kernel_rfl) Y Y Y Y S2 (fun _ _ _ _ _ => a0d Y Y Y Yn) (d_tk 2 Y (by kernel_rfl) Y Y Y Y S2 (fun _ _ _ _ _ => b0k u9 Y Y Y Yn) (d_tk 3 Y (by kernel_rfl) Y Y Y Y S2 (fun _ _ _ _ _ => a0d Y Y Y Yn) (c3f 4 Y (by kernel_rfl) (by kernel_rfl) (by kernel_rfl) Y Y Y S2 (d_tk 5 Y (by kernel_rfl) Y Y Y Y S2 (fun _ _ _ _ _ => a0f fa69_2 Y Y Y Yn) (d_tk 6 Y (by kernel_rfl) Y Y Y Y S2 (fun _ _ _ _ hq => a0n ag38 Y Y hq Y (i := 2) Y Y Yn) ?_))))))
 refine a0z 7 Y (by kernel_rfl) (a0o sz26 Y h3 Y Y Y Y (i := 3) Y Y Y Y ?_)
 intro kw gc
 have S3 := gc.Ys Yf [0, 1, 2, 3] Y Y
 refine a0v S3 (d_tk 8 Y (by kernel_rfl) Y Y Y Y S3 (fun _ _ _ _ _ => a0b Y Y Y Yn) (d_tk 9 Y (by kernel_rfl) Y Y Y Y S3 (fun _ _ _ _ _ => a0b Y Y Y Yn) (a2u (by kernel_rfl) (a0c (a1c (a1q (vl := [.agg #[vs [], .int .i64 0, .int .i64 0, vs [], .slice none 0 0, .int .i64 0], .int .i64 (s1.length : Int), .int .i64 f11]) Y ⟨a2h ag26 sz26 Y gc Y (i := 3) Y, a1p Y, a1p Y, trivial⟩ (by simp) ?_))))))
 obtain rfl := Yo hm
 exact ⟨_, _, _, Y, gc.Yp [] Y Y, none, 0, 0, Y, Y, SlR.nil _ _⟩
 clear hm
 rcases a0h J with ⟨h4, J⟩ | ⟨h4, J⟩
 refine a0r 72 Y h4 (a0x Y (a0a (a0d Y Y Y ?_)))
 obtain ⟨v11, i9, J⟩ := Yb J
 refine a2n ent33 Y Y Y Y s (i := 2) Y (a3z _ _ _ _ i9 s.sat gx (s.get (i := 2) Y) (s.lendable (i := 2) Y)) ?_
 rintro _ kx _ _ ky ia ib ⟨ic, id, ie, rfl, rfl, rfl, ig⟩
 refine a0e (a0k (fun a ha => ?_))
 cases J
 exact ⟨_, ic, id, ie, ia, ib.Yp [0, 1, 2, 3] Y Y, ig, ha.cut (l := [0, 2, 5, 8, 9]) Y⟩
 refine a0r 72 Y h4 (a0p Y (a1b (a0k (fun a ha => ?_))))
 cases J
 exact ⟨_, i5, i6, i7, Yf, s.Yp [0, 1, 2, 3] Y Y, gx, ha.cut (l := [0, 2, 5, 8, 9]) Y⟩
 clear hm
 rcases a0h g with ⟨h5, g⟩ | ⟨h5, g⟩
 refine a0r 52 Y h5 (a0x Y (a0g (a0a (a0d Y Y Y (a1f (e := 9) (cs := [vs [61]]) (q := 1) Y Y gt Y (fun _ => by kernel_rfl) Y Y ?_)))))
 intro b10 kz ih
 obtain ⟨l0, h6, g0, hsx5⟩ := a1g ih (i := 0) Y ((show RowN Rp.str gr 1 [vs [61]] [[61]] from ⟨Y, ⟨_, _, Y, Y, (Y : RowR Rp.str _ [] [])⟩⟩))
 obtain ⟨v12, ii, g⟩ := Yb g
 refine a2n ent28 Y Y Y Y g0 (i := 2) Y (a1x _ _ _ _ ii g0.sat (gu.mono h6) (g0.get (i := 2) Y) (g0.lendable (i := 2) Y) hsx5) ?_
 rintro _ l1 _ _ l2 ij g1 ⟨l3, l4, l5, rfl, rfl, rfl, ik⟩
 refine a0e (a0c (a0g (a0a (a0d Y Y Y ?_))))
 obtain ⟨v13, il, g⟩ := Yb g
 refine a2n ent29 Y Y Y Y g1 (i := 2) Y (a8m _ _ _ _ il g1.sat ik (g1.get (i := 2) Y) (g1.lendable (i := 2) Y)) ?_
 rintro _ im _ _ l6 io ip ⟨l7, l8, l9, rfl, rfl, rfl, iq⟩
 refine c5b (v := .agg #[.int .i64 v13.2.Kind, vs v13.2.Text, .int .i64 v13.2.N, .int .i64 v13.2.Pos]) (u := .int .i64 v13.2.N) (fun _ => by kernel_rfl) Y Y Y (a0f fa26_2 Y Y Y (a0o sz3 Y ip Y Y Y Y (i := 1) Y Y Y Y ?_))
 intro la ir
 refine a0e (a0c (a0a (a0d Y Y Y (a1f (e := 9) (cs := [vs [59]]) (q := 1) Y Y ir Y (fun _ => by kernel_rfl) Y Y ?_))))
 intro b11 lb it
 obtain ⟨lc, h7, g2, hsx6⟩ := a1g it (i := 0) Y ((show RowN Rp.str im 1 [vs [59]] [[59]] from ⟨Y, ⟨_, _, Y, Y, (Y : RowR Rp.str _ [] [])⟩⟩))
 obtain ⟨v14, iu, g⟩ := Yb g
 refine a2n ent28 Y Y Y Y g2 (i := 2) Y (a1x _ _ _ _ iu g2.sat (iq.mono h7) (g2.get (i := 2) Y) (g2.lendable (i := 2) Y) hsx6) ?_
 rintro _ ld _ _ lf iv iw ⟨ix, iy, iz, rfl, rfl, rfl, j0⟩
 refine a0e (a0k (fun a ha => ?_))
 cases g
 exact ⟨_, ix, iy, iz, ((((h6.trans ij).trans io).trans h7).trans iv), iw.Yp [0, 1, 2, 3] Y Y, j0, ha.cut (l := [0, 2, 5, 8, 9]) Y⟩
 refine a0r 52 Y h5 (a0p Y (a1b (a0k (fun a ha => ?_))))
 cases g
 exact ⟨_, hx, hy, hz, Yf, gt.Yp [0, 1, 2, 3] Y Y, gu, ha.cut (l := [0, 2, 5, 8, 9]) Y⟩
 clear hm
 rcases a0h G with ⟨gd, G⟩ | ⟨gd, G⟩
 refine a0r 45 Y gd (a0x Y (a0a (a0d Y Y Y ?_)))
 obtain ⟨v15, j1, G⟩ := Yb G
 refine a2n ent33 Y Y Y Y z (i := 2) Y (a3z _ _ _ _ j1 z.sat (hj.mono gj) (z.get (i := 2) Y) (z.lendable (i := 2) Y)) ?_
 rintro _ lg _ _ lh j2 j3 ⟨j4, j5, j6, rfl, rfl, rfl, j7⟩
 refine a0e (a0k (fun a ha => ?_))
 cases G
 exact ⟨_, j4, j5, j6, j2, j3.Yp [0, 1, 2, 3] Y Y, j7, ha.cut (l := [0, 2, 5, 8, 9]) Y⟩
 refine a0r 45 Y gd (a0p Y (a1b (a0k (fun a ha => ?_))))
 cases G
 exact ⟨_, hg, hh, hi, Yf, z.Yp [0, 1, 2, 3] Y Y, (hj.mono gj), ha.cut (l := [0, 2, 5, 8, 9]) Y⟩
 clear hm
 rcases a0h y with ⟨ge, y⟩ | ⟨ge, y⟩
 refine a1k 40 Y ge (a0f fa26_1 Y Y Y (a2p (cs' := [.int .i64 v5.2.Op, .int .i64 v5.2.N, vs v5.2.Name, .slice k m o]) ag24 sz24 Y Y p Y (i := 1) Y Y Y ?_))
 obtain ⟨v16, j8, y⟩ := Yb y
 refine a2n ent32 Y Y Y Y p (i := 0) Y (b3u _ _ _ _ _ j8 p.sat (hf.mono gl) (p.get (i := 0) Y) (p.lendable (i := 0) Y)) ?_
 rintro _ li _ _ lj j9 ja ⟨rfl, rfl, rfl⟩
 refine a4c Y Y Y (a0s Y Y Y Y (a0e (a0k (fun a ha => ?_))))
 cases y
 exact ⟨_, j9, ja.Yp [0, 1, 2, 3] Y Y, ha.cut (l := [0, 2, 5, 8, 9, 45]) Y⟩
 refine a1k 40 Y ge (a0y Y (by decide) Y (a0y Y (by decide) Y (a0y Y (by decide) Y (a0y Y (by decide) Y (a0m Y Y Y Y (a0e (a0k (fun a ha => ?_))))))))
 cases y
 exact ⟨_, Yf, p.Yp [0, 1, 2, 3] Y Y, ha.cut (l := [0, 2, 5, 8, 9, 45]) Y⟩
end Go.Proofs.YtknpjecpcmajiaaGreatDoor.M

namespace Go.Proofs.YtknpjecpcmajiaaGreatDoor.M
open Go Go.RowKit Rt
theorem ent26 : Ent Tryz.prog 26 := fun _ _ => by kernel_rfl
theorem ent25 : Ent Tryz.prog 25 := fun _ _ => by kernel_rfl
theorem ent56 : Ent Tryz.prog 56 := fun _ _ => by kernel_rfl
mutual
def tariff_text : Nat → Expr → Option Bs
 | 0, _ => none
 | n + 1, x1 =>
  bif x1.Op == 0 then
   (strconv_Itoa n x1.N).bind fun v1 =>
   some v1
  else
   bif x1.Op == 2 then
    some [112, 101, 114, 115, 111, 110, 115]
   else
    bif x1.Op == 3 then
     some [102, 108, 97, 116, 115]
    else
     bif x1.Op == 1 then
      (scat [108, 105, 102, 116, 115, 32, 40, 32] x1.Name).bind fun t1 =>
      (scat t1 [32, 41]).bind fun t2 =>
      some t2
     else
      bif x1.Op == 4 then
       (scat [119, 101, 105, 103, 104, 116, 32, 40, 32] x1.Name).bind fun t3 =>
       (scat t3 [32, 41]).bind fun t4 =>
       some t4
      else
       bif x1.Op == 9 then
        (ix x1.Args 0).bind fun ex1 =>
        (tariff_text n ex1).bind fun v2 =>
        (scat [109, 105, 110, 32, 40, 32] v2).bind fun t5 =>
        (scat t5 [32, 44, 32]).bind fun t6 =>
        (ix x1.Args 1).bind fun ex2 =>
        (tariff_text n ex2).bind fun v3 =>
        (scat t6 v3).bind fun t7 =>
        (scat t7 [32, 41]).bind fun t8 =>
        some t8
       else
        bif x1.Op == 10 then
         (ix x1.Args 0).bind fun ex3 =>
         (tariff_text n ex3).bind fun v4 =>
         (scat [109, 97, 120, 32, 40, 32] v4).bind fun t9 =>
         (scat t9 [32, 44, 32]).bind fun t10 =>
         (ix x1.Args 1).bind fun ex4 =>
         (tariff_text n ex4).bind fun v5 =>
         (scat t10 v5).bind fun t11 =>
         (scat t11 [32, 41]).bind fun t12 =>
         some t12
        else
         bif x1.Op == 14 then
          (ix x1.Args 0).bind fun ex5 =>
          (tariff_atomic n ex5).bind fun v6 =>
          (scat [110, 111, 116, 32] v6).bind fun t13 =>
          some t13
         else
          bif x1.Op == 11 then
           (ix x1.Args 0).bind fun ex6 =>
           (tariff_atomic n ex6).bind fun v7 =>
           (scat [105, 102, 32] v7).bind fun t14 =>
           (scat t14 [32, 116, 104, 101, 110, 32]).bind fun t15 =>
           (ix x1.Args 1).bind fun ex7 =>
           (tariff_atomic n ex7).bind fun v8 =>
           (scat t15 v8).bind fun t16 =>
           (scat t16 [32, 101, 108, 115, 101, 32]).bind fun t17 =>
           (ix x1.Args 2).bind fun ex8 =>
           (tariff_atomic n ex8).bind fun v9 =>
           (scat t17 v9).bind fun t18 =>
           some t18
          else
           (a4h n).bind fun v10 =>
           c0q n v10.length
            (match List.find? (fun (q : Bs × Int) => q.2 == x1.Op) v10 with
            | none =>
             some []
            | some q =>
             (ix x1.Args 0).bind fun ex10 =>
             (tariff_atomic n ex10).bind fun v12 =>
             (scat v12 [32]).bind fun t19 =>
             (scat t19 q.1).bind fun t20 =>
             (scat t20 [32]).bind fun t21 =>
             (ix x1.Args 1).bind fun ex11 =>
             (tariff_atomic n ex11).bind fun v13 =>
             (scat t21 v13).bind fun t22 =>
             some t22)
def tariff_atomic : Nat → Expr → Option Bs
 | 0, _ => none
 | n + 1, x1 =>
  (bif decide (0 < (x1.Args.length : Int)) then
   some (x1.Op != 9)
  else
   some false).bind fun v1 =>
  (bif v1 then
   some (x1.Op != 10)
  else
   some false).bind fun v2 =>
  bif v2 then
   (tariff_text n x1).bind fun v3 =>
   (scat [40, 32] v3).bind fun t1 =>
   (scat t1 [32, 41]).bind fun t2 =>
   some t2
  else
   (tariff_text n x1).bind fun v4 =>
   some v4
 end
theorem a4e (n : Nat) (x1 : Expr) : tariff_text (n + 1) x1 =
  bif x1.Op == 0 then
   (strconv_Itoa n x1.N).bind fun v1 =>
   some v1
  else
   bif x1.Op == 2 then
    some [112, 101, 114, 115, 111, 110, 115]
   else
    bif x1.Op == 3 then
     some [102, 108, 97, 116, 115]
    else
     bif x1.Op == 1 then
      (scat [108, 105, 102, 116, 115, 32, 40, 32] x1.Name).bind fun t1 =>
      (scat t1 [32, 41]).bind fun t2 =>
      some t2
     else
      bif x1.Op == 4 then
       (scat [119, 101, 105, 103, 104, 116, 32, 40, 32] x1.Name).bind fun t3 =>
       (scat t3 [32, 41]).bind fun t4 =>
       some t4
      else
       bif x1.Op == 9 then
        (ix x1.Args 0).bind fun ex1 =>
        (tariff_text n ex1).bind fun v2 =>
        (scat [109, 105, 110, 32, 40, 32] v2).bind fun t5 =>
        (scat t5 [32, 44, 32]).bind fun t6 =>
        (ix x1.Args 1).bind fun ex2 =>
        (tariff_text n ex2).bind fun v3 =>
        (scat t6 v3).bind fun t7 =>
        (scat t7 [32, 41]).bind fun t8 =>
        some t8
       else
        bif x1.Op == 10 then
         (ix x1.Args 0).bind fun ex3 =>
         (tariff_text n ex3).bind fun v4 =>
         (scat [109, 97, 120, 32, 40, 32] v4).bind fun t9 =>
         (scat t9 [32, 44, 32]).bind fun t10 =>
         (ix x1.Args 1).bind fun ex4 =>
         (tariff_text n ex4).bind fun v5 =>
         (scat t10 v5).bind fun t11 =>
         (scat t11 [32, 41]).bind fun t12 =>
         some t12
        else
         bif x1.Op == 14 then
          (ix x1.Args 0).bind fun ex5 =>
          (tariff_atomic n ex5).bind fun v6 =>
          (scat [110, 111, 116, 32] v6).bind fun t13 =>
          some t13
         else
          bif x1.Op == 11 then
           (ix x1.Args 0).bind fun ex6 =>
           (tariff_atomic n ex6).bind fun v7 =>
           (scat [105, 102, 32] v7).bind fun t14 =>
           (scat t14 [32, 116, 104, 101, 110, 32]).bind fun t15 =>
           (ix x1.Args 1).bind fun ex7 =>
           (tariff_atomic n ex7).bind fun v8 =>
           (scat t15 v8).bind fun t16 =>
           (scat t16 [32, 101, 108, 115, 101, 32]).bind fun t17 =>
           (ix x1.Args 2).bind fun ex8 =>
           (tariff_atomic n ex8).bind fun v9 =>
           (scat t17 v9).bind fun t18 =>
           some t18
          else
           (a4h n).bind fun v10 =>
           c0q n v10.length
            (match List.find? (fun (q : Bs × Int) => q.2 == x1.Op) v10 with
            | none =>
             some []
            | some q =>
             (ix x1.Args 0).bind fun ex10 =>
             (tariff_atomic n ex10).bind fun v12 =>
             (scat v12 [32]).bind fun t19 =>
             (scat t19 q.1).bind fun t20 =>
             (scat t20 [32]).bind fun t21 =>
             (ix x1.Args 1).bind fun ex11 =>
             (tariff_atomic n ex11).bind fun v13 =>
             (scat t21 v13).bind fun t22 =>
             some t22) := rfl
theorem b3s (n : Nat) (x1 : Expr) : tariff_atomic (n + 1) x1 =
  (bif decide (0 < (x1.Args.length : Int)) then
   some (x1.Op != 9)
  else
   some false).bind fun v1 =>
  (bif v1 then
   some (x1.Op != 10)
  else
   some false).bind fun v2 =>
  bif v2 then
   (tariff_text n x1).bind fun v3 =>
   (scat [40, 32] v3).bind fun t1 =>
   (scat t1 [32, 41]).bind fun t2 =>
   some t2
  else
   (tariff_text n x1).bind fun v4 =>
   some v4 := rfl
theorem b9k (n : Nat) : (∀ (x1 : Expr) (r : Bs) (_ : tariff_text n x1 = some r) {w : World} {F : Frz} (_ : Sat F w) {y : Option Addr} {z : Nat} {o : Nat} (_ : SlR rp_Expr F y z o x1.Args) (_ : FX F 1 (Lib.pow10Tab.map (Value.int .u64))), Calls Tryz.prog 25 #[.agg #[.int .i64 x1.Op, .int .i64 x1.N, vs x1.Name, .slice y z o]] w fun e w' => ∃ v F' O', e = .returned v ∧ HS F w [] F' O' w' ∧ (v = vs r ∧ O' = [])) ∧
  (∀ (x1 : Expr) (r : Bs) (_ : tariff_atomic n x1 = some r) {w : World} {F : Frz} (_ : Sat F w) {y : Option Addr} {z : Nat} {o : Nat} (_ : SlR rp_Expr F y z o x1.Args) (_ : FX F 1 (Lib.pow10Tab.map (Value.int .u64))), Calls Tryz.prog 56 #[.agg #[.int .i64 x1.Op, .int .i64 x1.N, vs x1.Name, .slice y z o]] w fun e w' => ∃ v F' O', e = .returned v ∧ HS F w [] F' O' w' ∧ (v = vs r ∧ O' = [])) := by
 induction n with
 | zero =>
  refine ⟨?_, ?_⟩
  ·intro x1 r hm
   exact absurd (show (none : Option Bs) = some r from hm) (by simp)
  ·intro x1 r hm
   exact absurd (show (none : Option Bs) = some r from hm) (by simp)
 | succ n ih =>
  refine ⟨?_, ?_⟩
  ·intro x1 r hm w F hs y z o k hg1
   rw [a4e] at hm
   have h := HS.init hs
   refine a1a 116 Tryz.func25 Y Y Y (a0g (a0a (a2z Y Y Y Y h ?_)))
   intro b1 T g
   refine a0b Y Y Y (a0e (a0c (a0g (a0g (a0a (a0f fa24_0 Y Y Y (a0n ag3 Y Y g Y (i := 0) Y Y (a0e (a0c (a1j (a0g (a0a (a0u Y Y Y Y Y (a0b Y Y Y (a0e (a0c ?_))))))))))))))))
   rcases a0h hm with ⟨t, hm⟩ | ⟨t, hm⟩
   ·refine a0r 7 rfl t ?_
    refine a0x Y (a0g (a0a (a0f fa24_1 Y Y Y (a0n ag3 Y Y g Y (i := 0) Y Y ?_))))
    obtain ⟨v1, U, hm⟩ := Yb hm
    refine a0i ent26 Y Y Y Y g (b4e _ _ _ U g.sat hg1) ?_
    rintro _ gs _ gt gu V ⟨rfl, rfl⟩
    refine a0b Y Y Y (a0e (a0c (a1c (a0t (a0j (a1n Y Y ?_))))))
    obtain rfl := Yo hm
    exact ⟨_, _, _, Y, V.Yp [] Y Y, Y, Y⟩
   ·refine a0r 7 rfl t ?_
    refine a0p Y (a0g (a0a (a0u Y Y Y Y Y (a0b Y Y Y (a0e (a0c ?_))))))
    rcases a0h hm with ⟨u, hm⟩ | ⟨u, hm⟩
    ·refine a0r 12 rfl u ?_
     refine a0x Y (a0g (a0a (a0b Y Y Y (a0e (a0c (a1c (a0t (a0j (a1n Y Y ?_)))))))))
     obtain rfl := Yo hm
     exact ⟨_, _, _, Y, g.Yp [] Y Y, Y, Y⟩
    ·refine a0r 12 rfl u ?_
     refine a0p Y (a0g (a0a (a0u Y Y Y Y Y (a0b Y Y Y (a0e (a0c ?_))))))
     rcases a0h hm with ⟨G, hm⟩ | ⟨G, hm⟩
     ·refine a0r 14 rfl G ?_
      refine a0x Y (a0g (a0a (a0b Y Y Y (a0e (a0c (a1c (a0t (a0j (a1n Y Y ?_)))))))))
      obtain rfl := Yo hm
      exact ⟨_, _, _, Y, g.Yp [] Y Y, Y, Y⟩
     ·refine a0r 14 rfl G ?_
      refine a0p Y (a0g (a0a (a0u Y Y Y Y Y (a0b Y Y Y (a0e (a0c ?_))))))
      rcases a0h hm with ⟨H, hm⟩ | ⟨H, hm⟩
      ·refine a0r 16 rfl H ?_
       refine a0x Y (a0g (a0a (a0f fa24_2 Y Y Y (a0n ag9 Y Y g Y (i := 0) Y Y ?_))))
       obtain ⟨t1, hq1, hm⟩ := Yb hm
       refine a8q Y Y Y Y hq1 ?_
       obtain ⟨t2, hq2, hm⟩ := Yb hm
       refine a8q Y Y Y Y hq2 (a0b Y Y Y (a0e (a0c (a1c (a0t (a0j (a1n Y Y ?_)))))))
       obtain rfl := Yo hm
       exact ⟨_, _, _, Y, g.Yp [] Y Y, Y, Y⟩
      ·refine a0r 16 rfl H ?_
       refine a0p Y (a0g (a0a (a0u Y Y Y Y Y (a0b Y Y Y (a0e (a0c ?_))))))
       rcases a0h hm with ⟨I, hm⟩ | ⟨I, hm⟩
       ·refine a0r 22 rfl I ?_
        refine a0x Y (a0g (a0a (a0f fa24_2 Y Y Y (a0n ag9 Y Y g Y (i := 0) Y Y ?_))))
        obtain ⟨t3, hq3, hm⟩ := Yb hm
        refine a8q Y Y Y Y hq3 ?_
        obtain ⟨t4, hq4, hm⟩ := Yb hm
        refine a8q Y Y Y Y hq4 (a0b Y Y Y (a0e (a0c (a1c (a0t (a0j (a1n Y Y ?_)))))))
        obtain rfl := Yo hm
        exact ⟨_, _, _, Y, g.Yp [] Y Y, Y, Y⟩
       ·refine a0r 22 rfl I ?_
        refine a0p Y (a0g (a0a (a0u Y Y Y Y Y (a0b Y Y Y (a0e (a0c ?_))))))
        rcases a0h hm with ⟨Z, hm⟩ | ⟨Z, hm⟩
        ·refine a0r 28 rfl Z ?_
         refine a0x Y (a0g (a3n (by kernel_rfl) (by kernel_rfl) g (a1e Y Y Y Y (fun _ _ _ _ => a0f fa24_3 Y Y Y Yn) (a1e Y Y Y Y (fun _ _ _ hq => a0n ag22 Y Y hq Y (i := 0) Y Y Yn) ?_))))
         obtain ⟨ex1, gv, hm⟩ := Yb hm
         obtain ⟨b2, o1, o, gw, gx, g6⟩ := a2k (P := Tryz.prog) (r := rp_Expr) u22 sz24 k gv
         obtain ⟨jc, jd, gy, gz, h0⟩ := expr_iff.1 gx
         subst gz
         refine a2s Y Y Y Y g6 (a1e Y Y Y Y (fun _ _ hleq hq => a3c ag24 sz24 Y Y hq (gw.mono hleq) Y Y Yn) ?_)
         obtain ⟨v2, g0, hm⟩ := Yb hm
         refine a5s ent25 Y Y Y Y (fun _ _ hleq hq => ih.1 _ _ g0 hq.sat (h0.mono hleq) (hg1.mono hleq)) ?_
         obtain ⟨t5, hq5, hm⟩ := Yb hm
         refine a1e Y Y Y Y (fun _ _ _ _ => a8q Y Y Y Y hq5 Yn) ?_
         obtain ⟨t6, hq6, hm⟩ := Yb hm
         refine a1e Y Y Y Y (fun _ _ _ _ => a8q Y Y Y Y hq6 Yn) (a1e Y Y Y Y (fun _ _ _ _ => a0f fa24_3 Y Y Y Yn) (a1e Y Y Y Y (fun _ _ _ hq => a0n ag22 Y Y hq Y (i := 0) Y Y Yn) ?_))
         obtain ⟨ex2, h1, hm⟩ := Yb hm
         obtain ⟨b3, o2, gy, h2, h3, g7⟩ := a2k (P := Tryz.prog) (r := rp_Expr) u22 sz24 k h1
         obtain ⟨je, jf, h4, h5, h6⟩ := expr_iff.1 h3
         subst h5
         refine a2s Y Y Y Y g7 (a1e Y Y Y Y (fun _ _ hleq hq => a3c ag24 sz24 Y Y hq (h2.mono hleq) Y Y Yn) ?_)
         obtain ⟨v3, h7, hm⟩ := Yb hm
         refine a5s ent25 Y Y Y Y (fun _ _ hleq hq => ih.1 _ _ h7 hq.sat (h6.mono hleq) (hg1.mono hleq)) ?_
         obtain ⟨t7, hq7, hm⟩ := Yb hm
         refine a1e Y Y Y Y (fun _ _ _ _ => a8q Y Y Y Y hq7 Yn) ?_
         obtain ⟨t8, hq8, hm⟩ := Yb hm
         refine a1e Y Y Y Y (fun _ _ _ _ => a8q Y Y Y Y hq8 Yn) (a1e Y Y Y Y (fun _ _ _ _ => a0b Y Y Y Yn) (b0z ?_))
         rintro h8 ⟨h9, hb, g1⟩
         refine a0c (a1c (a0t (a0j (a1n Y Y ?_))))
         obtain rfl := Yo hm
         exact ⟨_, _, _, Y, g1.Yp [] Y Y, Y, Y⟩
        ·refine a0r 28 rfl Z ?_
         refine a0p Y (a0g (a0a (a0u Y Y Y Y Y (a0b Y Y Y (a0e (a0c ?_))))))
         rcases a0h hm with ⟨g2, hm⟩ | ⟨g2, hm⟩
         ·refine a0r 44 rfl g2 ?_
          refine a0x Y (a0g (a3n (by kernel_rfl) (by kernel_rfl) g (a1e Y Y Y Y (fun _ _ _ _ => a0f fa24_3 Y Y Y Yn) (a1e Y Y Y Y (fun _ _ _ hq => a0n ag22 Y Y hq Y (i := 0) Y Y Yn) ?_))))
          obtain ⟨ex3, hc, hm⟩ := Yb hm
          obtain ⟨b4, o3, h4, hd, he, g8⟩ := a2k (P := Tryz.prog) (r := rp_Expr) u22 sz24 k hc
          obtain ⟨jg, jh, hf, hg, hh⟩ := expr_iff.1 he
          subst hg
          refine a2s Y Y Y Y g8 (a1e Y Y Y Y (fun _ _ hleq hq => a3c ag24 sz24 Y Y hq (hd.mono hleq) Y Y Yn) ?_)
          obtain ⟨v4, hi, hm⟩ := Yb hm
          refine a5s ent25 Y Y Y Y (fun _ _ hleq hq => ih.1 _ _ hi hq.sat (hh.mono hleq) (hg1.mono hleq)) ?_
          obtain ⟨t9, hq9, hm⟩ := Yb hm
          refine a1e Y Y Y Y (fun _ _ _ _ => a8q Y Y Y Y hq9 Yn) ?_
          obtain ⟨t10, hq10, hm⟩ := Yb hm
          refine a1e Y Y Y Y (fun _ _ _ _ => a8q Y Y Y Y hq10 Yn) (a1e Y Y Y Y (fun _ _ _ _ => a0f fa24_3 Y Y Y Yn) (a1e Y Y Y Y (fun _ _ _ hq => a0n ag22 Y Y hq Y (i := 0) Y Y Yn) ?_))
          obtain ⟨ex4, hj, hm⟩ := Yb hm
          obtain ⟨b5, o4, hf, hk, hl, g9⟩ := a2k (P := Tryz.prog) (r := rp_Expr) u22 sz24 k hj
          obtain ⟨ji, jj, hn, ho, hp⟩ := expr_iff.1 hl
          subst ho
          refine a2s Y Y Y Y g9 (a1e Y Y Y Y (fun _ _ hleq hq => a3c ag24 sz24 Y Y hq (hk.mono hleq) Y Y Yn) ?_)
          obtain ⟨v5, hr, hm⟩ := Yb hm
          refine a5s ent25 Y Y Y Y (fun _ _ hleq hq => ih.1 _ _ hr hq.sat (hp.mono hleq) (hg1.mono hleq)) ?_
          obtain ⟨t11, hq11, hm⟩ := Yb hm
          refine a1e Y Y Y Y (fun _ _ _ _ => a8q Y Y Y Y hq11 Yn) ?_
          obtain ⟨t12, hq12, hm⟩ := Yb hm
          refine a1e Y Y Y Y (fun _ _ _ _ => a8q Y Y Y Y hq12 Yn) (a1e Y Y Y Y (fun _ _ _ _ => a0b Y Y Y Yn) (b0z ?_))
          rintro ht ⟨jk, jl, hu⟩
          refine a0c (a1c (a0t (a0j (a1n Y Y ?_))))
          obtain rfl := Yo hm
          exact ⟨_, _, _, Y, hu.Yp [] Y Y, Y, Y⟩
         ·refine a0r 44 rfl g2 ?_
          refine a0p Y (a0g (a0a (a0u Y Y Y Y Y (a0b Y Y Y (a0e (a0c ?_))))))
          rcases a0h hm with ⟨g3, hm⟩ | ⟨g3, hm⟩
          ·refine a0r 60 rfl g3 ?_
           refine a0x Y (a0g (a0a (a0f fa24_3 Y Y Y (a0n ag22 Y Y g Y (i := 0) Y Y ?_))))
           obtain ⟨ex5, hv, hm⟩ := Yb hm
           refine a2r (r := rp_Expr) u22 sz24 Y Y Y Y k hv ?_
           intro b6 o5 hn hw hy
           obtain ⟨jm, jn, hz, i0, i1⟩ := expr_iff.1 hy
           subst i0
           refine a3c ag24 sz24 Y Y g hw Y Y ?_
           obtain ⟨v6, i2, hm⟩ := Yb hm
           refine a0i ent56 Y Y Y Y g (ih.2 _ _ i2 g.sat i1 hg1) ?_
           rintro _ jo _ i3 jp i4 ⟨rfl, rfl⟩
           obtain ⟨t13, hq13, hm⟩ := Yb hm
           refine a8q Y Y Y Y hq13 (a0b Y Y Y (a0e (a0c (a1c (a0t (a0j (a1n Y Y ?_)))))))
           obtain rfl := Yo hm
           exact ⟨_, _, _, Y, i4.Yp [] Y Y, Y, Y⟩
          ·refine a0r 60 rfl g3 ?_
           refine a0p Y (a0g (a0a (a0u Y Y Y Y Y (a0b Y Y Y (a0e (a0c ?_))))))
           rcases a0h hm with ⟨g4, hm⟩ | ⟨g4, hm⟩
           ·refine a0r 68 rfl g4 ?_
            refine a0x Y (a0g (a3n (by kernel_rfl) (by kernel_rfl) g (a1e Y Y Y Y (fun _ _ _ _ => a0f fa24_3 Y Y Y Yn) (a1e Y Y Y Y (fun _ _ _ hq => a0n ag22 Y Y hq Y (i := 0) Y Y Yn) ?_))))
            obtain ⟨ex6, i5, hm⟩ := Yb hm
            obtain ⟨b7, o6, hz, i6, i7, ga⟩ := a2k (P := Tryz.prog) (r := rp_Expr) u22 sz24 k i5
            obtain ⟨jq, jr, i8, i9, ia⟩ := expr_iff.1 i7
            subst i9
            refine a2s Y Y Y Y ga (a1e Y Y Y Y (fun _ _ hleq hq => a3c ag24 sz24 Y Y hq (i6.mono hleq) Y Y Yn) ?_)
            obtain ⟨v7, ib, hm⟩ := Yb hm
            refine a5s ent56 Y Y Y Y (fun _ _ hleq hq => ih.2 _ _ ib hq.sat (ia.mono hleq) (hg1.mono hleq)) ?_
            obtain ⟨t14, hq14, hm⟩ := Yb hm
            refine a1e Y Y Y Y (fun _ _ _ _ => a8q Y Y Y Y hq14 Yn) ?_
            obtain ⟨t15, hq15, hm⟩ := Yb hm
            refine a1e Y Y Y Y (fun _ _ _ _ => a8q Y Y Y Y hq15 Yn) (a1e Y Y Y Y (fun _ _ _ _ => a0f fa24_3 Y Y Y Yn) (a1e Y Y Y Y (fun _ _ _ hq => a0n ag22 Y Y hq Y (i := 0) Y Y Yn) ?_))
            obtain ⟨ex7, ic, hm⟩ := Yb hm
            obtain ⟨b8, o7, i8, id, ie, gb⟩ := a2k (P := Tryz.prog) (r := rp_Expr) u22 sz24 k ic
            obtain ⟨js, jt, ig, ii, ij⟩ := expr_iff.1 ie
            subst ii
            refine a2s Y Y Y Y gb (a1e Y Y Y Y (fun _ _ hleq hq => a3c ag24 sz24 Y Y hq (id.mono hleq) Y Y Yn) ?_)
            obtain ⟨v8, ik, hm⟩ := Yb hm
            refine a5s ent56 Y Y Y Y (fun _ _ hleq hq => ih.2 _ _ ik hq.sat (ij.mono hleq) (hg1.mono hleq)) ?_
            obtain ⟨t16, hq16, hm⟩ := Yb hm
            refine a1e Y Y Y Y (fun _ _ _ _ => a8q Y Y Y Y hq16 Yn) ?_
            obtain ⟨t17, hq17, hm⟩ := Yb hm
            refine a1e Y Y Y Y (fun _ _ _ _ => a8q Y Y Y Y hq17 Yn) (a1e Y Y Y Y (fun _ _ _ _ => a0f fa24_3 Y Y Y Yn) (a1e Y Y Y Y (fun _ _ _ hq => a0n ag22 Y Y hq Y (i := 0) Y Y Yn) ?_))
            obtain ⟨ex8, il, hm⟩ := Yb hm
            obtain ⟨b9, o8, ig, im, io, gc⟩ := a2k (P := Tryz.prog) (r := rp_Expr) u22 sz24 k il
            obtain ⟨ju, jv, ip, iq, ir⟩ := expr_iff.1 io
            subst iq
            refine a2s Y Y Y Y gc (a1e Y Y Y Y (fun _ _ hleq hq => a3c ag24 sz24 Y Y hq (im.mono hleq) Y Y Yn) ?_)
            obtain ⟨v9, iu, hm⟩ := Yb hm
            refine a5s ent56 Y Y Y Y (fun _ _ hleq hq => ih.2 _ _ iu hq.sat (ir.mono hleq) (hg1.mono hleq)) ?_
            obtain ⟨t18, hq18, hm⟩ := Yb hm
            refine a1e Y Y Y Y (fun _ _ _ _ => a8q Y Y Y Y hq18 Yn) (a1e Y Y Y Y (fun _ _ _ _ => a0b Y Y Y Yn) (b0z ?_))
            rintro jw ⟨jx, jy, iv⟩
            refine a0c (a1c (a0t (a0j (a1n Y Y ?_))))
            obtain rfl := Yo hm
            exact ⟨_, _, _, Y, iv.Yp [] Y Y, Y, Y⟩
           ·refine a0r 68 rfl g4 ?_
            refine a0p Y (a1b (a1o (a0c (a0g (a0g (a0a ?_))))))
            obtain ⟨v10, g5, hm⟩ := Yb hm
            refine a0i ent57 Y Y Y Y g (b1n _ _ g5 g.sat) ?_
            rintro _ iw _ jz Q iy ⟨bs10, ess10, cls10, rfl, rfl, K⟩
            refine d4i um97 Y Y Y iy (i := 0) Y ?_
            intro b10 k0 iz
            refine a0e (a0c (a1j ?_))
            intro a ax1
            obtain ⟨_, hV0⟩ := c1r hm
            have hU : ∀ q, q ∈ v10 → ∀ q', q' ∈ v10 → q.2 = q'.2 → q = q' := by
             obtain rfl := Yo ((Y : a4h n = some _).symm.trans g5)
             decide
            refine d5e (fun m (s : Nat) => c0q m s (match List.find? (fun (q : Bs × Int) => q.2 == x1.Op) v10 with | none => some [] | some q => (ix x1.Args 0).bind fun ex10 => (tariff_atomic n ex10).bind fun v12 => (scat v12 [32]).bind fun t19 => (scat t19 q.1).bind fun t20 => (scat t20 [32]).bind fun t21 => (ix x1.Args 1).bind fun ex11 => (tariff_atomic n ex11).bind fun v13 => (scat t21 v13).bind fun t22 => some t22)) r (fun (s : Nat) a w' => ∃ (seen1 : Array Nat) (c1 : Nat), HS F w [] iw [.it b10 (.mapIter (some bs10) cls10 seen1 c1), .mp bs10 ess10 cls10, .box b1 24 [.int .i64 x1.Op, .int .i64 x1.N, vs x1.Name, .slice y z o]] w' ∧ cls10 ≤ c1 ∧ (leftOf ess10.toArray seen1).size ≤ s ∧ c3j vs (Value.int .i64) (fun (q : Bs × Int) => q.2 == x1.Op) ess10 seen1 ∧ Has 116 a [(1, .pointer (some ⟨b1, 0, none⟩)), (91, .pointer (some ⟨b10, 0, none⟩))]) (fun _ => c7f) ?_ hm ⟨#[], cls10, iz, Nat.le_refl _, d1b K, c5e, ax1.cut (l := [1, 91]) Y⟩
            clear hm hV0
            intro mx1 Kx1 ihx1
            rintro s11 a k2 hmx1 ⟨seen1, c1, gf, j0, hsz1, hfl1, L⟩
            obtain ⟨hlt2, hV⟩ := c1r hmx1
            refine a1l L (a0g (a0a (d6k Y Y gf Y (j := 0) (i := 1) Y Y Y j0 (fun hL1 => ?_) (fun ex9 R j3 J => ?_))))
            ·have hN := c9m (p := (fun (q : Bs × Int) => q.2 == x1.Op)) vs_int_inj K hL1 hfl1
             rw [hN] at hV
             replace hV : (some []) = some r := hV
             refine a0l Y Y Y Y (a0e (a0c (a0g (a0p Y (a3p (a0w (a0w (a1m (a0c (a0g (a0a (a0b Y Y Y (a0e (a0c (a1c (a1n Y Y ?_))))))))))))))))
             obtain rfl := Yo hV
             exact ⟨_, _, _, Y, gf.Yp [] Y Y, Y, Y⟩
            ·obtain ⟨k1, v11, hq19, hk1, M⟩ := d0n K ex9 (c1o R)
             rw [hk1, M]
             have hlt := d0x R
             refine a0l Y Y Y Y (a0e (a0c (a0g (a0x Y (a1b (a0c (a1j (a0g (a0a (d4k Y Y J Y (j := 0) (i := 1) Y Y R ?_))))))))))
             rw [hk1, M]
             refine a0l Y Y Y Y (a0l Y Y Y Y (a0b Y Y Y (a0b Y Y Y (a0e (a0c (a0g (a0a (a0d Y Y Y (a0f fa24_0 Y Y Y (a0n ag3 Y Y J Y (i := 2) Y Y (a0u Y Y Y Y Y (a0e (a0c ?_)))))))))))))
             cases hp1 : (v11 == x1.Op) with
             | true =>
              have hF := d1s (p := (fun (q : Bs × Int) => q.2 == x1.Op)) hq19 hp1 (fun x hx hpx => hU x hx _ hq19 (by simp only [beq_iff_eq] at hpx hp1; rw [hpx, hp1]))
              rw [hF] at hV
              replace hV : ((ix x1.Args 0).bind fun ex10 => (tariff_atomic n ex10).bind fun v12 => (scat v12 [32]).bind fun t19 => (scat t19 k1).bind fun t20 => (scat t20 [32]).bind fun t21 => (ix x1.Args 1).bind fun ex11 => (tariff_atomic n ex11).bind fun v13 => (scat t21 v13).bind fun t22 => some t22) = some r := hV
              refine a0r 100 Y Y (a0x Y (a0g (a3n (by kernel_rfl) (by kernel_rfl) J (a1e Y Y Y Y (fun _ _ _ _ => a0f fa24_3 Y Y Y Yn) (a1e Y Y Y Y (fun _ _ _ hq => a0n ag22 Y Y hq Y (i := 2) Y Y Yn) ?_)))))
              obtain ⟨ex10, gg, hV⟩ := Yb hV
              obtain ⟨b11, o9, ip, j1, j2, gd⟩ := a2k (P := Tryz.prog) (r := rp_Expr) u22 sz24 (k.mono Q) gg
              obtain ⟨j4, j5, j6, gh, gi⟩ := expr_iff.1 j2
              subst gh
              refine a2s Y Y Y Y gd (a1e Y Y Y Y (fun _ _ hleq hq => a3c ag24 sz24 Y Y hq (j1.mono hleq) Y Y Yn) ?_)
              obtain ⟨v12, gj, hV⟩ := Yb hV
              refine a5s ent56 Y Y Y Y (fun _ _ hleq hq => ih.2 _ _ gj hq.sat (gi.mono hleq) ((hg1.mono Q).mono hleq)) ?_
              obtain ⟨t19, hq20, hV⟩ := Yb hV
              refine a1e Y Y Y Y (fun _ _ _ _ => a8q Y Y Y Y hq20 Yn) (a1e Y Y Y Y (fun _ _ _ _ => a0d Y Y Y Yn) ?_)
              obtain ⟨t20, hq21, hV⟩ := Yb hV
              refine a1e Y Y Y Y (fun _ _ _ _ => a8q Y Y Y Y hq21 Yn) ?_
              obtain ⟨t21, hq22, hV⟩ := Yb hV
              refine a1e Y Y Y Y (fun _ _ _ _ => a8q Y Y Y Y hq22 Yn) (a1e Y Y Y Y (fun _ _ _ _ => a0f fa24_3 Y Y Y Yn) (a1e Y Y Y Y (fun _ _ _ hq => a0n ag22 Y Y hq Y (i := 2) Y Y Yn) ?_))
              obtain ⟨ex11, gk, hV⟩ := Yb hV
              obtain ⟨b12, o10, j7, gl, gm, ge⟩ := a2k (P := Tryz.prog) (r := rp_Expr) u22 sz24 (k.mono Q) gk
              obtain ⟨j8, j9, ja, gn, go⟩ := expr_iff.1 gm
              subst gn
              refine a2s Y Y Y Y ge (a1e Y Y Y Y (fun _ _ hleq hq => a3c ag24 sz24 Y Y hq (gl.mono hleq) Y Y Yn) ?_)
              obtain ⟨v13, gp, hV⟩ := Yb hV
              refine a5s ent56 Y Y Y Y (fun _ _ hleq hq => ih.2 _ _ gp hq.sat (go.mono hleq) ((hg1.mono Q).mono hleq)) ?_
              obtain ⟨t22, hq23, hV⟩ := Yb hV
              refine a1e Y Y Y Y (fun _ _ _ _ => a8q Y Y Y Y hq23 Yn) (a1e Y Y Y Y (fun _ _ _ _ => a0b Y Y Y Yn) (b0z ?_))
              rintro jb ⟨k3, k4, gq⟩
              refine a0c (a1c (a0t (a0j (a0t (a0j (a1n Y Y ?_))))))
              obtain rfl := Yo hV
              exact ⟨_, _, _, Y, gq.Yp [] Y Y, Y, Y⟩
             | false =>
              refine a0r 100 Y Y (a0p Y (a1b (a1o (a0k (fun a ha => ihx1 (s11 - 1) a _ ?_ ?_)))))
              ·exact d1w (by omega) hV
              ·exact ⟨(seen1.push ex9.born), cls10, J.Yp [0, 1, 2] Y Y, Nat.le_refl _, by omega, c5h (J.get (i := 1) rfl).2.1 hfl1 (c1o R) hk1 M hp1, ha.cut (l := [1, 91]) rfl⟩
  ·intro x1 r hm w F hs y z o k hg1
   rw [b3s] at hm
   have h := HS.init hs
   refine a1a 23 Tryz.func56 Y Y Y (a0g (a0a (a2z Y Y Y Y h ?_)))
   intro b1 T g
   refine a0b Y Y Y (a0e (a0c (a0g (a0g (a0a (a0f fa24_3 Y Y Y (a0n ag22 Y Y g Y (i := 0) Y Y (a1y k.len u22 Y Y Y (a0u Y Y Y Y Y (a0d Y Y Y ?_))))))))))
   obtain ⟨v1, t, hm⟩ := Yb hm
   refine a2g 4 (fun a w' => T = w' ∧ Has 23 a [(1, .pointer (some ⟨b1, 0, none⟩)), (11, .bool v1)]) ?_ ?_
   ·rintro a gt ⟨rfl, L⟩
    refine a1d L (a0d Y Y Y ?_)
    obtain ⟨v2, u, hm⟩ := Yb hm
    refine a2g 4 (fun a w' => T = w' ∧ Has 23 a [(1, .pointer (some ⟨b1, 0, none⟩)), (16, .bool v2)]) ?_ ?_
    ·rintro a h8 ⟨rfl, gr⟩
     refine a1d gr (a0e (a0c ?_))
     rcases a0h hm with ⟨G, hm⟩ | ⟨G, hm⟩
     ·refine a0r 16 rfl G ?_
      refine a0x Y (a0g (a0a (a0q ag24 sz24 Y Y g Y (i := 0) Y Y ?_)))
      obtain ⟨v3, U, hm⟩ := Yb hm
      refine a0i ent25 Y Y Y Y g (ih.1 _ _ U g.sat k hg1) ?_
      rintro _ gs _ ht gu V ⟨rfl, rfl⟩
      obtain ⟨t1, hq1, hm⟩ := Yb hm
      refine a8q Y Y Y Y hq1 ?_
      obtain ⟨t2, hq2, hm⟩ := Yb hm
      refine a8q Y Y Y Y hq2 (a0b Y Y Y (a0e (a0c (a1c (a0j (a1n Y Y ?_))))))
      obtain rfl := Yo hm
      exact ⟨_, _, _, Y, V.Yp [] Y Y, Y, Y⟩
     ·refine a0r 16 rfl G ?_
      refine a0p Y (a1b (a0c (a0g (a0a (a0q ag24 sz24 Y Y g Y (i := 0) Y Y ?_)))))
      obtain ⟨v4, g0, hm⟩ := Yb hm
      refine a0i ent25 Y Y Y Y g (ih.1 _ _ g0 g.sat k hg1) ?_
      rintro _ h9 _ i3 hb g1 ⟨rfl, rfl⟩
      refine a0b Y Y Y (a0e (a0c (a1c (a1n Y Y ?_))))
      obtain rfl := Yo hm
      exact ⟨_, _, _, Y, g1.Yp [] Y Y, Y, Y⟩
    ·clear hm
     rcases a0h u with ⟨H, u⟩ | ⟨H, u⟩
     ·refine a1k 12 rfl H ?_
      refine a0f fa24_0 Y Y Y (a0n ag3 Y Y g Y (i := 0) Y Y (a0u Y Y Y Y Y (a0s Y Y Y Y (a0e (a0k (fun a ha => ?_))))))
      cases u
      exact ⟨Y, ha.cut (l := [1, 16]) Y⟩
     ·refine a1k 12 rfl H ?_
      refine a0y Y (by decide) Y (a0y Y (by decide) Y (a0y Y (by decide) Y (a0m Y Y Y Y (a0e (a0k (fun a ha => ?_))))))
      cases u
      exact ⟨Y, ha.cut (l := [1, 16]) Y⟩
   ·clear hm
    rcases a0h t with ⟨I, t⟩ | ⟨I, t⟩
    ·refine a1k 7 rfl I ?_
     refine a0f fa24_0 Y Y Y (a0n ag3 Y Y g Y (i := 0) Y Y (a0u Y Y Y Y Y (a0s Y Y Y Y (a0e (a0k (fun a ha => ?_))))))
     cases t
     exact ⟨Y, ha.cut (l := [1, 11]) Y⟩
    ·refine a1k 7 rfl I ?_
     refine a0y Y (by decide) Y (a0y Y (by decide) Y (a0y Y (by decide) Y (a0m Y Y Y Y (a0e (a0k (fun a ha => ?_))))))
     cases t
     exact ⟨Y, ha.cut (l := [1, 11]) Y⟩
theorem c1a (n : Nat) (x1 : Expr) (r : Bs) (hm : tariff_text n x1 = some r) {w : World} {F : Frz} (hs : Sat F w) {g : Option Addr} {h : Nat} {i : Nat} (j : SlR rp_Expr F g h i x1.Args) (hg1 : FX F 1 (Lib.pow10Tab.map (Value.int .u64))) :
  Calls Tryz.prog 25 #[.agg #[.int .i64 x1.Op, .int .i64 x1.N, vs x1.Name, .slice g h i]] w fun e w' => ∃ v F' O', e = .returned v ∧ HS F w [] F' O' w' ∧ (v = vs r ∧ O' = []) :=
 (b9k n).1 x1 r hm hs j hg1
def b0v (n : Nat) (t1 : Tariff) : Option (Bs × Bool) :=
 (a6h n t1).bind fun v1 =>
 bif !v1 then
  some ([], false)
 else
  (scat [116, 97, 114, 105, 102, 102, 32] t1.Name).bind fun t2 =>
  (scat t2 [32, 123, 32, 102, 101, 101, 32, 61, 32]).bind fun t3 =>
  (tariff_text n t1.Fee).bind fun v2 =>
  (scat t3 v2).bind fun t4 =>
  (scat t4 [32, 59]).bind fun t5 =>
  (bif t1.Cap != (-1) then
   (strconv_Itoa n t1.Cap).bind fun v3 =>
   (scat [32, 99, 97, 112, 32, 61, 32] v3).bind fun t7 =>
   (scat t7 [32, 59]).bind fun t8 =>
   (scat t5 t8).bind fun t9 =>
   some t9
  else
   some t5).bind fun s2 =>
  (scat s2 [32, 125]).bind fun t6 =>
  some (t6, true)
theorem c0g (n : Nat) (t1 : Tariff) (r : (Bs × Bool)) (hm : b0v n t1 = some r) {w : World} {F : Frz} (hs : Sat F w) {k : Option Addr} {m : Nat} {o : Nat} (x : SlR rp_Expr F k m o t1.Fee.Args) (hg1 : FX F 1 (Lib.pow10Tab.map (Value.int .u64))) :
  Calls Tryz.prog 8 #[.agg #[vs t1.Name, .int .i64 t1.Fee.Op, .int .i64 t1.Fee.N, vs t1.Fee.Name, .slice k m o, .int .i64 t1.Cap]] w fun e w' => ∃ v F' O', e = .returned v ∧ HS F w [] F' O' w' ∧ (v = .tuple #[vs r.1, .bool r.2] ∧ O' = []) := by
 unfold b0v at hm
 have h := HS.init hs
 refine a1a 29 Tryz.func8 Y Y Y (a0g (a0a (a2z Y Y Y Y h ?_)))
 intro b1 R p
 refine a0b Y Y Y (a0b Y Y Y (a0e (a0c (a0g (a0g (a0a (a0q ag26 sz26 Y Y p Y (i := 0) Y Y ?_)))))))
 obtain ⟨v1, G, hm⟩ := Yb hm
 refine a0i ent24 Y Y Y Y p (b1y _ _ _ G p.sat x) ?_
 rintro _ T _ U q y ⟨rfl, rfl⟩
 refine a4c Y Y Y (a0e (a0c ?_))
 rcases a0h hm with ⟨s, hm⟩ | ⟨s, hm⟩
 refine a0r 7 Y s (a0x Y (a0g (a0a (a0b Y Y Y (a0b Y Y Y (a0e (a0c (a1c (a0j (a1q (vl := [vs [], .bool false]) Y ⟨a1p Y, a1p Y, trivial⟩ (by simp) ?_))))))))))
 obtain rfl := Yo hm
 exact ⟨_, _, _, Y, y.Yp [] Y Y, Y, Y⟩
 refine a0r 7 Y s (a0p Y (a1b (a0c (a0g (a3n (by kernel_rfl) (by kernel_rfl) y (a1e Y Y Y Y (fun _ _ _ _ => a0f fa26_0 Y Y Y Yn) (a1e Y Y Y Y (fun _ _ _ hq => a0n ag9 Y Y hq Y (i := 0) Y Y Yn) ?_)))))))
 obtain ⟨t2, hq1, hm⟩ := Yb hm
 refine a1e Y Y Y Y (fun _ _ _ _ => a8q Y Y Y Y hq1 Yn) ?_
 obtain ⟨t3, hq2, hm⟩ := Yb hm
 refine a1e Y Y Y Y (fun _ _ _ _ => a8q Y Y Y Y hq2 Yn) (a1e Y Y Y Y (fun _ _ _ _ => a0f fa26_1 Y Y Y Yn) (a1e Y Y Y Y (fun _ _ _ hq => a2p (cs' := [.int .i64 t1.Fee.Op, .int .i64 t1.Fee.N, vs t1.Fee.Name, .slice k m o]) ag24 sz24 Y Y hq Y (i := 0) Y Y Y Yn) ?_))
 obtain ⟨v2, H, hm⟩ := Yb hm
 refine a5s ent25 Y Y Y Y (fun _ _ hleq hq => c1a _ _ _ H hq.sat ((x.mono q).mono hleq) ((hg1.mono q).mono hleq)) ?_
 obtain ⟨t4, hq3, hm⟩ := Yb hm
 refine a1e Y Y Y Y (fun _ _ _ _ => a8q Y Y Y Y hq3 Yn) ?_
 obtain ⟨t5, hq4, hm⟩ := Yb hm
 refine a1e Y Y Y Y (fun _ _ _ _ => a8q Y Y Y Y hq4 Yn) (a1e Y Y Y Y (fun _ _ _ _ => a0b Y Y Y Yn) (b0z ?_))
 rintro V ⟨I, J, j⟩
 refine a0c (a0g (a0g (a0a (a0f fa26_2 Y Y Y (a0n ag3 Y Y j Y (i := 0) Y Y (a0u Y Y Y Y Y (a0e (a0c ?_))))))))
 obtain ⟨s2, g, hm⟩ := Yb hm
 refine a6f (fun a w' => ∃ (t : Frz), Frz.le I t ∧ HS F w [] t [.box b1 26 [vs t1.Name, .int .i64 t1.Fee.Op, .int .i64 t1.Fee.N, vs t1.Fee.Name, .slice k m o, .int .i64 t1.Cap]] w' ∧ Has 29 a [(4, vs s2)]) ?_ ?_
 rintro a Z ⟨t, g0, K, z⟩
 refine a1l z (a0g (a0a (a0d Y Y Y ?_)))
 obtain ⟨t6, hq5, hm⟩ := Yb hm
 refine a8q Y Y Y Y hq5 (a0b Y Y Y (a0b Y Y Y (a0e (a0c (a1c (a1q (vl := [vs t6, .bool true]) Y ⟨a1p Y, a1p Y, trivial⟩ (by simp) ?_))))))
 obtain rfl := Yo hm
 exact ⟨_, _, _, Y, K.Yp [] Y Y, Y, Y⟩
 clear hm
 rcases a0h g with ⟨u, g⟩ | ⟨u, g⟩
 refine a0r 19 Y u (a0x Y (a0a (a0d Y Y Y (a0f fa26_2 Y Y Y (a0n ag3 Y Y j Y (i := 0) Y Y ?_)))))
 obtain ⟨v3, L, g⟩ := Yb g
 refine a0i ent26 Y Y Y Y j (b4e _ _ _ L j.sat ((hg1.mono q).mono J)) ?_
 rintro _ g1 _ g2 M Q ⟨rfl, rfl⟩
 obtain ⟨t7, hq6, g⟩ := Yb g
 refine a8q Y Y Y Y hq6 ?_
 obtain ⟨t8, hq7, g⟩ := Yb g
 refine a8q Y Y Y Y hq7 ?_
 obtain ⟨t9, hq8, g⟩ := Yb g
 refine a8q Y Y Y Y hq8 (a0b Y Y Y (a0e (a0k (fun a ha => ?_))))
 cases g
 exact ⟨_, M, Q.Yp [0] Y Y, ha.cut (l := [4]) Y⟩
 refine a0r 19 Y u (a0p Y (a1b (a0k (fun a ha => ?_))))
 cases g
 exact ⟨_, Yf, j.Yp [0] Y Y, ha.cut (l := [4]) Y⟩
end Go.Proofs.YtknpjecpcmajiaaGreatDoor.M

namespace Go.Proofs.YtknpjecpcmajiaaGreatDoor.Wrap
open Go Go.ChangeShapes Go.WideShapes Go.ChangeAt Go.RowKit Rt
theorem c9w (W : World) : b3r Tryz.prog W 9 Rp.str (fun s => s.length ≤ maxLen) := c9o Tryz.underlying9
theorem cells9 : Tryz.prog.cellsOf 9 = 1 := by kernel_rfl
theorem b9s (W : World) : b3r Tryz.prog W 3 (Rp.int .i64) (fun z => IntKind.i64.min ≤ z ∧ z ≤ IntKind.i64.max) := d1e Tryz.underlying3
theorem cells3 : Tryz.prog.cellsOf 3 = 1 := by kernel_rfl
theorem cells22 : Tryz.prog.cellsOf 22 = 1 := by kernel_rfl
theorem cells24 : Tryz.prog.cellsOf 24 = 4 := by kernel_rfl
inductive WfX : M.Expr → Prop
  | mk {o n : Int} {s : Rt.Bs} {l : List M.Expr} : (IntKind.i64.min ≤ o ∧ o ≤ IntKind.i64.max) → (IntKind.i64.min ≤ n ∧ n ≤ IntKind.i64.max) → s.length ≤ maxLen → l.length ≤ maxLen → (∀ y, y ∈ l → WfX y) → WfX ⟨o, n, s, l⟩
def ok24 (x : M.Expr) : Prop := WfX x
set_option maxRecDepth 100000 in
theorem d2i (W : World) {H : Type} (enc : TypeId × Value → H) : ∀ (fuel : Nat) (cs : List Value) (x : DataW H × List MemPlace), DataW.trod enc Tryz.prog W 0 (fun _ => true) true fuel 24 cs = some x → ∃ y, M.rp_Expr.R (all W) cs y ∧ WfX y := by
 intro fuel
 induction fuel using Nat.strongRecOn with
 | ind fuel ih =>
  intro cs x h
  obtain ⟨xs, n, hfu, _, hl, hn, hf⟩ := DataW.trod_struct Tryz.underlying24 h
  obtain ⟨y0, r0, o0⟩ := a7x hn hf (i := 0) rfl (b9s W)
  obtain ⟨y1, r1, o1⟩ := a7x hn hf (i := 1) rfl (b9s W)
  obtain ⟨y2, r2, o2⟩ := a7x hn hf (i := 2) rfl (c9w W)
  have h3 : DataW.trod enc Tryz.prog W 0 (fun _ => true) true n 22 ((cs.drop 3).take (Tryz.prog.cellsOf 22)) = xs[3]? := hf 3 _ rfl
  have h3l : 3 < xs.length := by rw [hn]; decide
  rw [List.getElem?_eq_getElem h3l] at h3
  obtain ⟨l, ⟨a, m, c, e3', s3⟩, o3, o4⟩ := d2h Tryz.underlying22 (r := M.rp_Expr) (ok := WfX) (by rw [cells24]; rfl) (by decide) h3 (fun j cs' x' hj hx => ih j (by omega) cs' x' hx)
  have e0 : (cs.drop 0).take (Tryz.prog.cellsOf 3) = [.int .i64 y0] := r0
  have e1 : (cs.drop 1).take (Tryz.prog.cellsOf 3) = [.int .i64 y1] := r1
  have e2 : (cs.drop 2).take (Tryz.prog.cellsOf 9) = [vs y2] := r2
  have e3 : (cs.drop 3).take (Tryz.prog.cellsOf 22) = [.slice a m c] := e3'
  rw [cells3] at e0 e1
  rw [cells9] at e2
  rw [cells22] at e3
  rw [cells24] at hl
  refine ⟨⟨y0, y1, y2, l⟩, M.expr_iff.2 ⟨a, m, c, ?_, s3⟩, WfX.mk o0 o1 o2 o3 o4⟩
  show cs = _
  have hd : cs.drop 4 = [] := List.drop_of_length_le (by omega)
  have h0 : cs = cs.drop 0 := (List.drop_zero).symm
  rw [h0]
  rw [show cs.drop 0 = (cs.drop 0).take 1 ++ cs.drop 1 from a7g cs 0 1, e0]
  rw [show cs.drop 1 = (cs.drop 1).take 1 ++ cs.drop 2 from a7g cs 1 1, e1]
  rw [show cs.drop 2 = (cs.drop 2).take 1 ++ cs.drop 3 from a7g cs 2 1, e2]
  rw [show cs.drop 3 = (cs.drop 3).take 1 ++ cs.drop 4 from a7g cs 3 1, e3]
  rw [hd]
  rfl
theorem d4g (W : World) : b3r Tryz.prog W 24 M.rp_Expr ok24 := fun enc fuel cs x h => d2i W enc fuel cs x h
theorem cells26 : Tryz.prog.cellsOf 26 = 6 := by kernel_rfl
def ok26 (x : M.Tariff) : Prop := x.Name.length ≤ maxLen ∧ ok24 x.Fee ∧ (IntKind.i64.min ≤ x.Cap ∧ x.Cap ≤ IntKind.i64.max)
set_option maxRecDepth 100000 in
theorem d5b (W : World) : b3r Tryz.prog W 26 M.rp_Tariff ok26 := by
 intro H enc fuel cs x h
 obtain ⟨xs, n, _, _, hl, hn, hf⟩ := DataW.trod_struct Tryz.underlying26 h
 obtain ⟨y0, r0, o0⟩ := a7x hn hf (i := 0) rfl (c9w W)
 have e0' := r0
 have e0 : (cs.drop 0).take (Tryz.prog.cellsOf 9) = [vs y0] := e0'
 rw [cells9] at e0
 obtain ⟨y1, r1, o1⟩ := a7x hn hf (i := 1) rfl (d4g W)
 obtain ⟨a1_3, n1_3, c1_3, e1', s1_3⟩ := (M.expr_iff.1 r1)
 have e1 : (cs.drop 1).take (Tryz.prog.cellsOf 24) = [.int .i64 y1.Op, .int .i64 y1.N, vs y1.Name, .slice a1_3 n1_3 c1_3] := e1'
 rw [cells24] at e1
 obtain ⟨y2, r2, o2⟩ := a7x hn hf (i := 2) rfl (b9s W)
 have e2' := r2
 have e2 : (cs.drop 5).take (Tryz.prog.cellsOf 3) = [.int .i64 y2] := e2'
 rw [cells3] at e2
 rw [cells26] at hl
 refine ⟨⟨y0, y1, y2⟩, ⟨a1_3, n1_3, c1_3, ?_, s1_3⟩, o0, o1, o2⟩
 show cs = _
 have hd : cs.drop 6 = [] := List.drop_of_length_le (by omega)
 have h0 : cs = cs.drop 0 := (List.drop_zero).symm
 rw [h0]
 rw [show cs.drop 0 = (cs.drop 0).take 1 ++ cs.drop 1 from a7g cs 0 1, e0]
 rw [show cs.drop 1 = (cs.drop 1).take 4 ++ cs.drop 5 from a7g cs 1 4, e1]
 rw [show cs.drop 5 = (cs.drop 5).take 1 ++ cs.drop 6 from a7g cs 5 1, e2]
 rw [hd]
 rfl
def ok27 (l : List Bs) : Prop := l.length ≤ maxLen ∧ ∀ x ∈ l, x.length ≤ maxLen
theorem d5v (W : World) : b3r Tryz.prog W 27 (Rp.sl Rp.str) ok27 := b5p Tryz.underlying27 (r := Rp.str) (by rw [cells9]; rfl) (by decide) (c9w W)
def ok28 (l : List Int) : Prop := l.length ≤ maxLen ∧ ∀ x ∈ l, (IntKind.i64.min ≤ x ∧ x ≤ IntKind.i64.max)
theorem c8d (W : World) : b3r Tryz.prog W 28 (Rp.sl (Rp.int .i64)) ok28 := b5p Tryz.underlying28 (r := (Rp.int .i64)) (by rw [cells3]; rfl) (by decide) (b9s W)
theorem cells28 : Tryz.prog.cellsOf 28 = 1 := by kernel_rfl
theorem cells30 : Tryz.prog.cellsOf 30 = 3 := by kernel_rfl
def ok30 (x : M.Facts) : Prop := ok28 x.Lifts ∧ (IntKind.i64.min ≤ x.Persons ∧ x.Persons ≤ IntKind.i64.max) ∧ (IntKind.i64.min ≤ x.Flats ∧ x.Flats ≤ IntKind.i64.max)
set_option maxRecDepth 100000 in
theorem d5t (W : World) : b3r Tryz.prog W 30 M.rp_Facts ok30 := by
 intro H enc fuel cs x h
 obtain ⟨xs, n, _, _, hl, hn, hf⟩ := DataW.trod_struct Tryz.underlying30 h
 obtain ⟨y0, r0, o0⟩ := a7x hn hf (i := 0) rfl (c8d W)
 obtain ⟨a0_0, n0_0, c0_0, e0', s0_0⟩ := r0
 have e0 : (cs.drop 0).take (Tryz.prog.cellsOf 28) = [.slice a0_0 n0_0 c0_0] := e0'
 rw [cells28] at e0
 obtain ⟨y1, r1, o1⟩ := a7x hn hf (i := 1) rfl (b9s W)
 have e1' := r1
 have e1 : (cs.drop 1).take (Tryz.prog.cellsOf 3) = [.int .i64 y1] := e1'
 rw [cells3] at e1
 obtain ⟨y2, r2, o2⟩ := a7x hn hf (i := 2) rfl (b9s W)
 have e2' := r2
 have e2 : (cs.drop 2).take (Tryz.prog.cellsOf 3) = [.int .i64 y2] := e2'
 rw [cells3] at e2
 rw [cells30] at hl
 refine ⟨⟨y0, y1, y2⟩, ⟨a0_0, n0_0, c0_0, ?_, s0_0⟩, o0, o1, o2⟩
 show cs = _
 have hd : cs.drop 3 = [] := List.drop_of_length_le (by omega)
 have h0 : cs = cs.drop 0 := (List.drop_zero).symm
 rw [h0]
 rw [show cs.drop 0 = (cs.drop 0).take 1 ++ cs.drop 1 from a7g cs 0 1, e0]
 rw [show cs.drop 1 = (cs.drop 1).take 1 ++ cs.drop 2 from a7g cs 1 1, e1]
 rw [show cs.drop 2 = (cs.drop 2).take 1 ++ cs.drop 3 from a7g cs 2 1, e2]
 rw [hd]
 rfl
theorem cells35 : Tryz.prog.cellsOf 35 = 2 := by kernel_rfl
def ok35 (x : M.Big) : Prop := (IntKind.i64.min ≤ x.Sign ∧ x.Sign ≤ IntKind.i64.max) ∧ ok28 x.Digits
set_option maxRecDepth 100000 in
theorem c8i (W : World) : b3r Tryz.prog W 35 M.rp_Big ok35 := by
 intro H enc fuel cs x h
 obtain ⟨xs, n, _, _, hl, hn, hf⟩ := DataW.trod_struct Tryz.underlying35 h
 obtain ⟨y0, r0, o0⟩ := a7x hn hf (i := 0) rfl (b9s W)
 have e0' := r0
 have e0 : (cs.drop 0).take (Tryz.prog.cellsOf 3) = [.int .i64 y0] := e0'
 rw [cells3] at e0
 obtain ⟨y1, r1, o1⟩ := a7x hn hf (i := 1) rfl (c8d W)
 obtain ⟨a1_0, n1_0, c1_0, e1', s1_0⟩ := r1
 have e1 : (cs.drop 1).take (Tryz.prog.cellsOf 28) = [.slice a1_0 n1_0 c1_0] := e1'
 rw [cells28] at e1
 rw [cells35] at hl
 refine ⟨⟨y0, y1⟩, ⟨a1_0, n1_0, c1_0, ?_, s1_0⟩, o0, o1⟩
 show cs = _
 have hd : cs.drop 2 = [] := List.drop_of_length_le (by omega)
 have h0 : cs = cs.drop 0 := (List.drop_zero).symm
 rw [h0]
 rw [show cs.drop 0 = (cs.drop 0).take 1 ++ cs.drop 1 from a7g cs 0 1, e0]
 rw [show cs.drop 1 = (cs.drop 1).take 1 ++ cs.drop 2 from a7g cs 1 1, e1]
 rw [hd]
 rfl
theorem cells37 : Tryz.prog.cellsOf 37 = 4 := by kernel_rfl
def ok37 (x : M.Frac) : Prop := ok35 x.P ∧ ok35 x.Q
set_option maxRecDepth 100000 in
theorem d4j (W : World) : b3r Tryz.prog W 37 M.rp_Frac ok37 := by
 intro H enc fuel cs x h
 obtain ⟨xs, n, _, _, hl, hn, hf⟩ := DataW.trod_struct Tryz.underlying37 h
 obtain ⟨y0, r0, o0⟩ := a7x hn hf (i := 0) rfl (c8i W)
 obtain ⟨a0_1, n0_1, c0_1, e0', s0_1⟩ := r0
 have e0 : (cs.drop 0).take (Tryz.prog.cellsOf 35) = [.int .i64 y0.Sign, .slice a0_1 n0_1 c0_1] := e0'
 rw [cells35] at e0
 obtain ⟨y1, r1, o1⟩ := a7x hn hf (i := 1) rfl (c8i W)
 obtain ⟨a1_1, n1_1, c1_1, e1', s1_1⟩ := r1
 have e1 : (cs.drop 2).take (Tryz.prog.cellsOf 35) = [.int .i64 y1.Sign, .slice a1_1 n1_1 c1_1] := e1'
 rw [cells35] at e1
 rw [cells37] at hl
 refine ⟨⟨y0, y1⟩, ⟨a0_1, n0_1, c0_1, a1_1, n1_1, c1_1, ?_, s0_1, s1_1⟩, o0, o1⟩
 show cs = _
 have hd : cs.drop 4 = [] := List.drop_of_length_le (by omega)
 have h0 : cs = cs.drop 0 := (List.drop_zero).symm
 rw [h0]
 rw [show cs.drop 0 = (cs.drop 0).take 2 ++ cs.drop 2 from a7g cs 0 2, e0]
 rw [show cs.drop 2 = (cs.drop 2).take 2 ++ cs.drop 4 from a7g cs 2 2, e1]
 rw [hd]
 rfl
def ok31 (l : List M.Frac) : Prop := l.length ≤ maxLen ∧ ∀ x ∈ l, ok37 x
theorem d4u (W : World) : b3r Tryz.prog W 31 (Rp.sl M.rp_Frac) ok31 := b5p Tryz.underlying31 (r := M.rp_Frac) (by rw [cells37]; rfl) (by decide) (d4j W)
def tabs : List (String × DataW Unit) := [("math/bits.deBruijn32tab", Rows.laid_math_bits_deBruijn32tab), ("math/bits.deBruijn64tab", Rows.laid_math_bits_deBruijn64tab), ("internal/strconv.uint64pow10", Rows.laid_internal_strconv_uint64pow10), ("kerbside/lexer.signs", Rows.laid_kerbside_lexer_signs)]
theorem cells125 : Tryz.prog.cellsOf 125 = 13 := by kernel_rfl
theorem cells5 : Tryz.prog.cellsOf 5 = 1 := by kernel_rfl
theorem gTab0 : Tryz.prog.globalNamed "kerbside/lexer.signs" = some 0 := by kernel_rfl
theorem gTabType0 : (Tryz.prog.globals[0]?).map (·.type) = some 125 := by kernel_rfl
theorem d6g {W : World} (h : laidMetH Tryz.prog tabs W) : FX (all W) 0 [.int .u8 40, .int .u8 41, .int .u8 44, .int .u8 59, .int .u8 58, .int .u8 61, .int .u8 60, .int .u8 43, .int .u8 45, .int .u8 42, .int .u8 47, .int .u8 123, .int .u8 125] := by
 have h1 : laidMet Tryz.prog tabs W := h
 have h2 : laidMet Tryz.prog (("kerbside/lexer.signs", Lib.tabData .u8 [40, 41, 44, 59, 58, 61, 60, 43, 45, 42, 47, 123, 125]) :: _) W := h1.tail.tail.tail
 exact c4m gTab0 (Lib.tabIs_of_head gTab0 gTabType0 Tryz.underlying125 Tryz.underlying5 cells5 cells125 h2)
theorem cells152 : Tryz.prog.cellsOf 152 = 20 := by kernel_rfl
theorem cells126 : Tryz.prog.cellsOf 126 = 1 := by kernel_rfl
theorem gTab1 : Tryz.prog.globalNamed "internal/strconv.uint64pow10" = some 1 := by kernel_rfl
theorem gTabType1 : (Tryz.prog.globals[1]?).map (·.type) = some 152 := by kernel_rfl
theorem d7d {W : World} (h : laidMetH Tryz.prog tabs W) : FX (all W) 1 (Lib.pow10Tab.map (Value.int .u64)) := by
 have h1 : laidMet Tryz.prog tabs W := h
 have h2 : laidMet Tryz.prog (("internal/strconv.uint64pow10", Lib.tabData .u64 [1, 10, 100, 1000, 10000, 100000, 1000000, 10000000, 100000000, 1000000000, 10000000000, 100000000000, 1000000000000, 10000000000000, 100000000000000, 1000000000000000, 10000000000000000, 100000000000000000, 1000000000000000000, 10000000000000000000]) :: _) W := h1.tail.tail
 exact c4m gTab1 (Lib.tabIs_of_head gTab1 gTabType1 Tryz.underlying152 Tryz.underlying126 cells126 cells152 h2)
def laidCells : DataW Unit → List Value
  | .lit (.int k z) => [.int k z]
  | .agg xs => xs.flatMap fun | .lit (.int k z) => [.int k z] | .agg [.lit (.int k z), .lit (.int k' z')] => [.int k z, .int k' z'] | _ => []
  | _ => []
def d2s (h : Array Obj) (g : Nat) (d : DataW Unit) : Array Obj := h.modify g fun
  | .cells _ t frozen => .cells (laidCells d).toArray t frozen
  | o => o
noncomputable def b8p (os : Os) : World :=
  { World.holding Tryz.prog os ⟨#[], #[], []⟩ with heap := (d2s (d2s (d2s (d2s (World.holding Tryz.prog os ⟨#[], #[], []⟩).heap 2 Rows.laid_math_bits_deBruijn32tab) 3 Rows.laid_math_bits_deBruijn64tab) 1 Rows.laid_internal_strconv_uint64pow10) 0 Rows.laid_kerbside_lexer_signs) }
theorem d1q (os : Os) (args : Array Value) : laidMet Tryz.prog tabs ((b8p os).forCall (fun _ _ => 0) ⟨#[], args, []⟩).memory :=
 laidMet_of_run' 8 (by kernel_rfl) (by kernel_rfl)
end Go.Proofs.YtknpjecpcmajiaaGreatDoor.Wrap

namespace Go.Proofs.YtknpjecpcmajiaaGreatDoor.M
open Go Go.RowKit Rt
theorem ent13 : Ent Tryz.prog 13 := fun _ _ => by kernel_rfl
theorem ent16 : Ent Tryz.prog 16 := fun _ _ => by kernel_rfl
theorem ent15 : Ent Tryz.prog 15 := fun _ _ => by kernel_rfl
theorem ent14 : Ent Tryz.prog 14 := fun _ _ => by kernel_rfl
theorem ent17 : Ent Tryz.prog 17 := fun _ _ => by kernel_rfl
theorem ent10 : Ent Tryz.prog 10 := fun _ _ => by kernel_rfl
theorem ent11 : Ent Tryz.prog 11 := fun _ _ => by kernel_rfl
def b1q (n : Nat)  : Option Bool :=
 (b6f n 12345 2).bind fun v1 =>
 (b6f n 2469 400).bind fun v2 =>
 (b2p n 100).bind fun v3 =>
 ((a7r n 1000).bind fun v37 =>
 (a9e n (⟨4, 0, [112, 97, 112, 101, 114], []⟩ : Expr) v37).bind fun v38 =>
 (a8a n 8 v38).bind fun v39 =>
 (a9v n v39 [v1.1, v3]).bind fun v40 =>
 some (v40.1.P.Sign, v40.1.P.Digits, v40.1.Q.Sign, v40.1.Q.Digits, v40.2)).bind fun (f1, f2, f3, f4, ex1) =>
 ((a7r n 1000).bind fun v32 =>
 (a9e n v32 (⟨2, 0, [], []⟩ : Expr)).bind fun v33 =>
 (a8a n 7 v33).bind fun v34 =>
 (a9e n (⟨4, 0, [112, 97, 112, 101, 114], []⟩ : Expr) v34).bind fun v35 =>
 (a8a n 9 v35).bind fun v36 =>
 some (v36.Op, v36.N, v36.Name, v36.Args)).bind fun (f5, f6, f7, f8) =>
 (a9e n (⟨f5, f6, f7, f8⟩ : Expr) (⟨1, 0, [112, 97, 112, 101, 114], []⟩ : Expr)).bind fun v4 =>
 (a8a n 5 v4).bind fun v5 =>
 (a9v n v5 [v1.1, v3]).bind fun v6 =>
 (a7r n 2).bind fun v7 =>
 (a9e n v7 (⟨4, 0, [103, 108, 97, 115, 115], []⟩ : Expr)).bind fun v8 =>
 (a8a n 6 v8).bind fun v9 =>
 ((a7r n 3).bind fun v27 =>
 (a9e n (⟨2, 0, [], []⟩ : Expr) v27).bind fun v28 =>
 (a8a n 12 v28).bind fun v29 =>
 (a7r n 1).bind fun v30 =>
 (a8a n 11 [v29, v30, v9]).bind fun v31 =>
 some (v31.Op, v31.N, v31.Name, v31.Args)).bind fun (f9, f10, f11, f12) =>
 (a9v n (⟨f9, f10, f11, f12⟩ : Expr) [v1.1, v3]).bind fun v10 =>
 (a9u n (⟨[97], (⟨f9, f10, f11, f12⟩ : Expr), 5⟩ : Tariff) [[112, 97, 112, 101, 114], [103, 108, 97, 115, 115]] (⟨[4, 0], 3, 1⟩ : Facts) [v1.1, v3]).bind fun v11 =>
 (a9v n (⟨4, 0, [116, 105, 110], []⟩ : Expr) [v1.1, v3]).bind fun v12 =>
 (bif ex1 != 0 then
  some true
 else
  some (v6.2 != 0)).bind fun v13 =>
 (bif v13 then
  some true
 else
  some (v10.2 != 0)).bind fun v14 =>
 (bif v14 then
  some true
 else
  some (v11.2 != 0)).bind fun v15 =>
 (bif v15 then
  some true
 else
  some (v12.2 != 11)).bind fun v16 =>
 bif v16 then
  some false
 else
  (a5g n (⟨(⟨f1, f2⟩ : Big), (⟨f3, f4⟩ : Big)⟩ : Frac) v2.1).bind fun v17 =>
  (bif v17 then
   (b2p n 3004).bind fun v25 =>
   (a5g n v6.1 v25).bind fun v26 =>
   some v26
  else
   some false).bind fun v18 =>
  (bif v18 then
   (b2p n (-98)).bind fun v23 =>
   (a5g n v10.1 v23).bind fun v24 =>
   some v24
  else
   some false).bind fun v19 =>
  (bif v19 then
   (b2p n 0).bind fun v21 =>
   (a5g n v11.1 v21).bind fun v22 =>
   some v22
  else
   some false).bind fun v20 =>
  some v20
theorem c0w (n : Nat)  (r : Bool) (hm : b1q n  = some r) {w : World} {F : Frz} (hs : Sat F w)  :
  Calls Tryz.prog 4 #[] w fun e w' => ∃ v F' O', e = .returned v ∧ HS F w [] F' O' w' ∧ (v = .bool r ∧ O' = []) := by
 unfold b1q at hm
 have h := HS.init hs
 refine a1a 129 Tryz.func4 Y Y Y (a0g (a0a (a0b Y Y Y (a0e (a0c (a0g (a0a ?_)))))))
 obtain ⟨v1, qz, hm⟩ := Yb hm
 refine a0i ent12 Y Y Y Y h (b5q _ _ _ _ qz h.sat) ?_
 rintro _ vi _ vj vk s0 ⟨h8, h9, hb, hc, hd, he, rfl, rfl, s1, s2⟩
 refine a0d Y Y Y (a0l Y Y Y Y (a0l Y Y Y Y (a1h ze37 Y Y Y s0 ?_)))
 intro b1 vl s3
 refine a0o sz37 Y s3 Y Y Y Y (i := 0) Y Y Y Y ?_
 intro vm oh
 refine a0b Y Y Y (a0e (a0c (a0g (a0a ?_))))
 obtain ⟨v2, s4, hm⟩ := Yb hm
 refine a0i ent12 Y Y Y Y oh (b5q _ _ _ _ s4 oh.sat) ?_
 rintro _ s5 _ vn oi s6 ⟨hx, hy, hz, i0, i1, i2, rfl, rfl, s7, s8⟩
 refine a0d Y Y Y (a0l Y Y Y Y (a0l Y Y Y Y (a1h ze37 Y Y Y s6 ?_)))
 intro b2 vo s9
 refine a0o sz37 Y s9 Y Y Y Y (i := 0) Y Y Y Y ?_
 intro vp sa
 refine a0b Y Y Y (a0e (a0c (a0g (a2f (SH s5 [.box b2 37 [.int .i64 v2.1.P.Sign, .slice hx hy hz, .int .i64 v2.1.Q.Sign, .slice i0 i1 i2], .box b1 37 [.int .i64 v1.1.P.Sign, .slice h8 h9 hb, .int .i64 v1.1.Q.Sign, .slice hc hd he]]) 4 Y (by kernel_rfl) sa ?_))))
 intro vq ma
 refine d_tk 0 Y (by kernel_rfl) Y Y Y Y (ma.Ys Yf [0, 1] Y Y) (fun _ _ _ _ hq => a0q ag37 sz37 Y Y hq Y (i := 1) Y Y Yn) (a0z 1 Y (by kernel_rfl) ?_)
 obtain ⟨v3, sb, hm⟩ := Yb hm
 refine a0i ent13 Y Y Y Y ma (b1w _ _ _ sb ma.sat) ?_
 rintro _ sc _ vr jt oj ⟨mb, mc, md, me, mf, mg, rfl, rfl, sd, se⟩
 refine a0v (oj.Ys jt [0, 1] Y Y) (a0z 2 Y (by kernel_rfl) (a1f (e := 37) (cs := [.int .i64 v1.1.P.Sign, .slice h8 h9 hb, .int .i64 v1.1.Q.Sign, .slice hc hd he, .int .i64 v3.P.Sign, .slice mb mc md, .int .i64 v3.Q.Sign, .slice me mf mg]) (q := 4) Y Y oj Y (fun _ => by kernel_rfl) Y Y ?_))
 intro b3 vt mh
 refine a0v (mh.Ys jt [1, 2] Y Y) (d_tk 3 Y (by kernel_rfl) Y Y Y Y (mh.Ys jt [1, 2] Y Y) (fun _ _ _ _ _ => a0b Y Y Y Yn) (a2u (by kernel_rfl) (a0c (a0g (a0a (a1r (v := .agg #[.int .i64 4, .int .i64 0, vs [112, 97, 112, 101, 114], .slice none 0 0]) Y Y Y (fun _ => by kernel_rfl) (a1h ze24 Y Y Y mh ?_)))))))
 intro b4 sr ow
 refine a0o sz24 Y ow Y Y Y Y (i := 0) Y Y Y Y ?_
 intro ss ox
 refine a0e (a0c (a0g (a0a (a1r (v := .agg #[.int .i64 2, .int .i64 0, vs [], .slice none 0 0]) Y Y Y (fun _ => by kernel_rfl) (a1h ze24 Y Y Y ox ?_)))))
 intro b5 st oy
 refine a0o sz24 Y oy Y Y Y Y (i := 0) Y Y Y Y ?_
 intro su oz
 refine a0e (a0c ?_)
 obtain ⟨ok, sf, p0, hsx1⟩ := a1g oz (i := 2) Y ((show RowN rp_Frac sc 2 [.int .i64 v1.1.P.Sign, .slice h8 h9 hb, .int .i64 v1.1.Q.Sign, .slice hc hd he, .int .i64 v3.P.Sign, .slice mb mc md, .int .i64 v3.Q.Sign, .slice me mf mg] [v1.1, v3] from ⟨Y, ⟨_, _, Y, ⟨h8, h9, hb, hc, hd, he, Y, ((s1.mono oi).mono jt), ((s2.mono oi).mono jt)⟩, ⟨_, _, Y, ⟨mb, mc, md, me, mf, mg, Y, sd, se⟩, (Y : RowR rp_Frac _ [] [])⟩⟩⟩))
 obtain ⟨⟨f1, f2, f3, f4, ex1⟩, Z, hm⟩ := Yb hm
 refine c5g (fun a w' => ∃ (jb : Frz) (b6 : Nat) (i3 : Option Addr) (i4 : Nat) (i5 : Nat) (i6 : Option Addr) (i7 : Nat) (i8 : Nat), Frz.le ok jb ∧ HS F w [] jb [.box b6 37 [.int .i64 f1, .slice i3 i4 i5, .int .i64 f3, .slice i6 i7 i8], .box b5 24 [.int .i64 2, .int .i64 0, vs [], .slice none 0 0], .box b4 24 [.int .i64 4, .int .i64 0, vs [112, 97, 112, 101, 114], .slice none 0 0], .box b2 37 [.int .i64 v2.1.P.Sign, .slice hx hy hz, .int .i64 v2.1.Q.Sign, .slice i0 i1 i2], .box b1 37 [.int .i64 v1.1.P.Sign, .slice h8 h9 hb, .int .i64 v1.1.Q.Sign, .slice hc hd he]] w' ∧ (SlR (Rp.int .i64) jb i3 i4 i5 f2) ∧ (SlR (Rp.int .i64) jb i6 i7 i8 f4) ∧ Has 129 a [(3, .pointer (some ⟨b2, 0, none⟩)), (5, .slice (some ⟨b3, 0, none⟩) 2 2), (6, .pointer (some ⟨b4, 0, none⟩)), (7, .pointer (some ⟨b5, 0, none⟩)), (8, .pointer (some ⟨b6, 0, none⟩)), (9, .int .i64 ex1)]) ?_ ?_
 rintro a sv ⟨jb, b6, i3, i4, i5, i6, i7, i8, ol, p1, sg, si, p2⟩
 refine a1l p2 ?_
 obtain ⟨⟨f5, f6, f7, f8⟩, H, hm⟩ := Yb hm
 refine c5g (fun a w' => ∃ (m9 : Frz) (b7 : Nat) (ip : Option Addr) (iq : Nat) (ir : Nat), Frz.le jb m9 ∧ HS F w [] m9 [.box b7 24 [.int .i64 f5, .int .i64 f6, vs f7, .slice ip iq ir], .box b6 37 [.int .i64 f1, .slice i3 i4 i5, .int .i64 f3, .slice i6 i7 i8], .box b5 24 [.int .i64 2, .int .i64 0, vs [], .slice none 0 0], .box b4 24 [.int .i64 4, .int .i64 0, vs [112, 97, 112, 101, 114], .slice none 0 0], .box b2 37 [.int .i64 v2.1.P.Sign, .slice hx hy hz, .int .i64 v2.1.Q.Sign, .slice i0 i1 i2], .box b1 37 [.int .i64 v1.1.P.Sign, .slice h8 h9 hb, .int .i64 v1.1.Q.Sign, .slice hc hd he]] w' ∧ (SlR rp_Expr m9 ip iq ir f8) ∧ Has 129 a [(3, .pointer (some ⟨b2, 0, none⟩)), (5, .slice (some ⟨b3, 0, none⟩) 2 2), (7, .pointer (some ⟨b5, 0, none⟩)), (8, .pointer (some ⟨b6, 0, none⟩)), (9, .int .i64 ex1), (10, .pointer (some ⟨b7, 0, none⟩))]) ?_ ?_
 rintro a sw ⟨m9, b7, ip, iq, ir, mi, l6, sj, p3⟩
 refine a1l p3 (a0g (a0a (a0q ag24 sz24 Y Y l6 Y (i := 0) Y Y (a1r (v := .agg #[.int .i64 1, .int .i64 0, vs [112, 97, 112, 101, 114], .slice none 0 0]) Y Y Y (fun _ => by kernel_rfl) ?_))))
 obtain ⟨v4, sk, hm⟩ := Yb hm
 refine a0i ent16 Y Y Y Y l6 (a3a _ _ _ _ sk l6.sat sj (SlR.nil _ _)) ?_
 rintro _ vu _ sx mj p4 ⟨sy, sz, t0, xss10, rfl, rfl, p5⟩
 obtain ⟨vv, mk, ml, hsx2⟩ := a1g p4 (i := 0) Y p5
 obtain ⟨v5, sl, hm⟩ := Yb hm
 refine a0i ent15 Y Y Y Y ml (a1v _ _ _ _ sl ml.sat hsx2) ?_
 rintro _ vw _ t1 mm mn ⟨t2, t3, t4, rfl, rfl, p6⟩
 refine a0d Y Y Y ?_
 have om := (((ol.trans mi).trans mj).trans mk).trans mm
 obtain ⟨v6, sm, hm⟩ := Yb hm
 refine a0i ent14 Y Y Y Y mn (a5d _ _ _ _ sm mn.sat p6 (hsx1.mono om)) ?_
 rintro _ t5 _ t6 l7 p7 ⟨iv, iw, ix, iy, iz, j0, rfl, rfl, p8, p9⟩
 refine a0d Y Y Y (a0l Y Y Y Y (a0l Y Y Y Y (a1h ze37 Y Y Y p7 ?_)))
 intro b8 t7 pa
 refine a0o sz37 Y pa Y Y Y Y (i := 0) Y Y Y Y ?_
 intro t8 mo
 refine a0b Y Y Y (a0e (a0c (a0g (a0a ?_))))
 obtain ⟨v7, sn, hm⟩ := Yb hm
 refine a0i ent17 Y Y Y Y mo (a3e _ _ _ sn mo.sat) ?_
 rintro _ t9 _ ta ju mp ⟨tb, tc, td, rfl, rfl, pb⟩
 refine a1r (v := .agg #[.int .i64 4, .int .i64 0, vs [103, 108, 97, 115, 115], .slice none 0 0]) Y Y Y (fun _ => by kernel_rfl) ?_
 obtain ⟨v8, so, hm⟩ := Yb hm
 refine a0i ent16 Y Y Y Y mp (a3a _ _ _ _ so mp.sat pb (SlR.nil _ _)) ?_
 rintro _ te _ tf jv pc ⟨tg, th, ti, xss15, rfl, rfl, pd⟩
 obtain ⟨tj, jw, mq, hsx3⟩ := a1g pc (i := 0) Y pd
 obtain ⟨v9, sp, hm⟩ := Yb hm
 refine a0i ent15 Y Y Y Y mq (a1v _ _ _ _ sp mq.sat hsx3) ?_
 rintro _ mr _ tk jx pe ⟨R, T, U, rfl, rfl, ik⟩
 refine a1h ze24 Y Y Y pe ?_
 intro b9 tl pf
 refine a0o sz24 Y pf Y Y Y Y (i := 0) Y Y Y Y ?_
 intro tm pg
 refine a0e (a0c ?_)
 obtain ⟨⟨f9, f10, f11, f12⟩, z, hm⟩ := Yb hm
 refine c5g (fun a w' => ∃ (jy : Frz) (b10 : Nat) (i9 : Option Addr) (ia : Nat) (ib : Nat), Frz.le mr jy ∧ HS F w [] jy [.box b10 24 [.int .i64 f9, .int .i64 f10, vs f11, .slice i9 ia ib], .box b9 24 [.int .i64 v9.Op, .int .i64 v9.N, vs v9.Name, .slice R T U], .box b8 37 [.int .i64 v6.1.P.Sign, .slice iv iw ix, .int .i64 v6.1.Q.Sign, .slice iy iz j0], .box b7 24 [.int .i64 f5, .int .i64 f6, vs f7, .slice ip iq ir], .box b6 37 [.int .i64 f1, .slice i3 i4 i5, .int .i64 f3, .slice i6 i7 i8], .box b5 24 [.int .i64 2, .int .i64 0, vs [], .slice none 0 0], .box b4 24 [.int .i64 4, .int .i64 0, vs [112, 97, 112, 101, 114], .slice none 0 0], .box b2 37 [.int .i64 v2.1.P.Sign, .slice hx hy hz, .int .i64 v2.1.Q.Sign, .slice i0 i1 i2], .box b1 37 [.int .i64 v1.1.P.Sign, .slice h8 h9 hb, .int .i64 v1.1.Q.Sign, .slice hc hd he]] w' ∧ (SlR rp_Expr jy i9 ia ib f12) ∧ Has 129 a [(3, .pointer (some ⟨b2, 0, none⟩)), (5, .slice (some ⟨b3, 0, none⟩) 2 2), (8, .pointer (some ⟨b6, 0, none⟩)), (9, .int .i64 ex1), (11, .pointer (some ⟨b8, 0, none⟩)), (12, .int .i64 v6.2), (14, .pointer (some ⟨b10, 0, none⟩))]) ?_ ?_
 rintro a tn ⟨jy, b10, i9, ia, ib, jz, l8, ms, ph⟩
 refine a1l ph (a0g (a0a (a0q ag24 sz24 Y Y l8 Y (i := 0) Y Y (a0d Y Y Y ?_))))
 have mt := (((((om.trans l7).trans ju).trans jv).trans jw).trans jx).trans jz
 obtain ⟨v10, pi, hm⟩ := Yb hm
 refine a0i ent14 Y Y Y Y l8 (a5d _ _ _ _ pi l8.sat ms (hsx1.mono mt)) ?_
 rintro _ mu _ to j1 pj ⟨k0, k1, k2, k3, k4, k5, rfl, rfl, pk, pl⟩
 refine a0d Y Y Y (a0l Y Y Y Y (a0l Y Y Y Y (a1h ze37 Y Y Y pj ?_)))
 intro b11 tp pm
 refine a0o sz37 Y pm Y Y Y Y (i := 0) Y Y Y Y ?_
 intro tq mv
 refine a0b Y Y Y (a0e (a0c (a0g (a0a (a0q ag24 sz24 Y Y mv Y (i := 1) Y Y (a1r (v := .agg #[vs [97], .int .i64 f9, .int .i64 f10, vs f11, .slice i9 ia ib, .int .i64 5]) Y Y Y (fun _ => by kernel_rfl) (a1f (e := 9) (cs := [vs [112, 97, 112, 101, 114], vs [103, 108, 97, 115, 115]]) (q := 1) Y Y mv Y (fun _ => by kernel_rfl) Y Y ?_)))))))
 intro b12 tr pn
 refine a1f (e := 3) (cs := [.int .i64 4, .int .i64 0]) (q := 1) Y Y pn Y (fun _ => by kernel_rfl) Y Y ?_
 intro b13 ts po
 obtain ⟨tt, ic, pp, hsx4⟩ := a1g po (i := 0) Y ((show RowN (Rp.int .i64) mu 2 [.int .i64 4, .int .i64 0] [4, 0] from ⟨Y, ⟨_, _, Y, Y, ⟨_, _, Y, Y, (Y : RowR (Rp.int .i64) _ [] [])⟩⟩⟩))
 refine a1r (v := .agg #[.slice (some ⟨b13, 0, none⟩) 2 2, .int .i64 3, .int .i64 1]) Y Y Y (fun _ => by kernel_rfl) (a0d Y Y Y ?_)
 obtain ⟨tu, id, mw, hsx5⟩ := a1g pp (i := 0) Y ((show RowN Rp.str mu 2 [vs [112, 97, 112, 101, 114], vs [103, 108, 97, 115, 115]] [[112, 97, 112, 101, 114], [103, 108, 97, 115, 115]] from ⟨Y, ⟨_, _, Y, Y, ⟨_, _, Y, Y, (Y : RowR Rp.str _ [] [])⟩⟩⟩).mono ic)
 obtain ⟨v11, pq, hm⟩ := Yb hm
 refine a0i ent10 Y Y Y Y mw (b3c _ _ _ _ _ _ pq mw.sat (((ms.mono j1).mono ic).mono id) hsx5 (hsx4.mono id) ((((hsx1.mono mt).mono j1).mono ic).mono id)) ?_
 rintro _ tv _ tw jc pr ⟨k6, k7, k8, k9, ka, kb, rfl, rfl, ps, pt⟩
 refine a0d Y Y Y (a0l Y Y Y Y (a0l Y Y Y Y (a1h ze37 Y Y Y pr ?_)))
 intro b14 tx pu
 refine a0o sz37 Y pu Y Y Y Y (i := 0) Y Y Y Y ?_
 intro ty mx
 refine a0b Y Y Y (a0e (a0c (a0g (a0a (a1r (v := .agg #[.int .i64 4, .int .i64 0, vs [116, 105, 110], .slice none 0 0]) Y Y Y (fun _ => by kernel_rfl) (a0d Y Y Y ?_))))))
 have sq := (((mt.trans j1).trans ic).trans id).trans jc
 obtain ⟨v12, pv, hm⟩ := Yb hm
 refine a0i ent14 Y Y Y Y mx (a5d _ _ _ _ pv mx.sat (SlR.nil _ _) (hsx1.mono sq)) ?_
 rintro _ pw _ tz jd px ⟨kc, kd, ke, kf, kg, kh, rfl, rfl, u0, u1⟩
 refine a0d Y Y Y (a0l Y Y Y Y (a0l Y Y Y Y (a1h ze37 Y Y Y px ?_)))
 intro b15 u2 py
 refine a0o sz37 Y py Y Y Y Y (i := 0) Y Y Y Y ?_
 intro ki my
 refine a0b Y Y Y (a0e (a0c (a0g (a0g (a0a (a0d Y Y Y (a0u Y Y Y Y Y (a0d Y Y Y ?_))))))))
 obtain ⟨v13, l2, hm⟩ := Yb hm
 refine a2g 3 (fun a w' => ki = w' ∧ Has 129 a [(3, .pointer (some ⟨b2, 0, none⟩)), (8, .pointer (some ⟨b6, 0, none⟩)), (11, .pointer (some ⟨b8, 0, none⟩)), (15, .pointer (some ⟨b11, 0, none⟩)), (16, .int .i64 v10.2), (17, .pointer (some ⟨b14, 0, none⟩)), (18, .int .i64 v11.2), (20, .int .i64 v12.2), (98, .bool v13)]) ?_ ?_
 rintro a u3 ⟨rfl, pz⟩
 refine a1d pz (a0d Y Y Y ?_)
 obtain ⟨v14, l3, hm⟩ := Yb hm
 refine a2g 3 (fun a w' => ki = w' ∧ Has 129 a [(3, .pointer (some ⟨b2, 0, none⟩)), (8, .pointer (some ⟨b6, 0, none⟩)), (11, .pointer (some ⟨b8, 0, none⟩)), (15, .pointer (some ⟨b11, 0, none⟩)), (17, .pointer (some ⟨b14, 0, none⟩)), (18, .int .i64 v11.2), (20, .int .i64 v12.2), (102, .bool v14)]) ?_ ?_
 rintro a u4 ⟨rfl, q0⟩
 refine a1d q0 (a0d Y Y Y ?_)
 obtain ⟨v15, l4, hm⟩ := Yb hm
 refine a2g 3 (fun a w' => ki = w' ∧ Has 129 a [(3, .pointer (some ⟨b2, 0, none⟩)), (8, .pointer (some ⟨b6, 0, none⟩)), (11, .pointer (some ⟨b8, 0, none⟩)), (15, .pointer (some ⟨b11, 0, none⟩)), (17, .pointer (some ⟨b14, 0, none⟩)), (20, .int .i64 v12.2), (106, .bool v15)]) ?_ ?_
 rintro a u5 ⟨rfl, q1⟩
 refine a1d q1 (a0d Y Y Y ?_)
 obtain ⟨v16, l5, hm⟩ := Yb hm
 refine a2g 3 (fun a w' => ki = w' ∧ Has 129 a [(3, .pointer (some ⟨b2, 0, none⟩)), (8, .pointer (some ⟨b6, 0, none⟩)), (11, .pointer (some ⟨b8, 0, none⟩)), (15, .pointer (some ⟨b11, 0, none⟩)), (17, .pointer (some ⟨b14, 0, none⟩)), (110, .bool v16)]) ?_ ?_
 rintro a u6 ⟨rfl, q2⟩
 refine a1d q2 (a0e (a0c ?_))
 rcases a0h hm with ⟨mz, hm⟩ | ⟨mz, hm⟩
 refine a0r 110 Y mz (a0x Y (a0g (a0a (a0b Y Y Y (a0e (a0c (a1c (a0j (a1n Y Y ?_)))))))))
 obtain rfl := Yo hm
 exact ⟨_, _, _, Y, my.Yp [] Y Y, Y, Y⟩
 refine a0r 110 Y mz (a0p Y (a1b (a0c (a0g ?_))))
 refine a2f (SH pw [.box b15 37 [.int .i64 v12.1.P.Sign, .slice kc kd ke, .int .i64 v12.1.Q.Sign, .slice kf kg kh], .box b14 37 [.int .i64 v11.1.P.Sign, .slice k6 k7 k8, .int .i64 v11.1.Q.Sign, .slice k9 ka kb], .box b11 37 [.int .i64 v10.1.P.Sign, .slice k0 k1 k2, .int .i64 v10.1.Q.Sign, .slice k3 k4 k5], .box b10 24 [.int .i64 f9, .int .i64 f10, vs f11, .slice i9 ia ib], .box b9 24 [.int .i64 v9.Op, .int .i64 v9.N, vs v9.Name, .slice R T U], .box b8 37 [.int .i64 v6.1.P.Sign, .slice iv iw ix, .int .i64 v6.1.Q.Sign, .slice iy iz j0], .box b7 24 [.int .i64 f5, .int .i64 f6, vs f7, .slice ip iq ir], .box b6 37 [.int .i64 f1, .slice i3 i4 i5, .int .i64 f3, .slice i6 i7 i8], .box b5 24 [.int .i64 2, .int .i64 0, vs [], .slice none 0 0], .box b4 24 [.int .i64 4, .int .i64 0, vs [112, 97, 112, 101, 114], .slice none 0 0], .box b2 37 [.int .i64 v2.1.P.Sign, .slice hx hy hz, .int .i64 v2.1.Q.Sign, .slice i0 i1 i2], .box b1 37 [.int .i64 v1.1.P.Sign, .slice h8 h9 hb, .int .i64 v1.1.Q.Sign, .slice hc hd he]]) 19 Y (by kernel_rfl) my ?_
 intro u7 kj
 refine d_tk 0 Y (by kernel_rfl) Y Y Y Y (kj.Ys Yf [0, 1, 2, 3, 4, 5, 6, 7, 8, 9, 10, 11] Y Y) (fun _ _ _ _ hq => a0q ag37 sz37 Y Y hq Y (i := 7) Y Y Yn) (d_tk 1 Y (by kernel_rfl) Y Y Y Y (kj.Ys Yf [0, 1, 2, 3, 4, 5, 6, 7, 8, 9, 10, 11] Y Y) (fun _ _ _ _ hq => a0q ag37 sz37 Y Y hq Y (i := 10) Y Y Yn) (a0z 2 Y (by kernel_rfl) ?_))
 have on := (((((((((((((mi.trans mj).trans mk).trans mm).trans l7).trans ju).trans jv).trans jw).trans jx).trans jz).trans j1).trans ic).trans id).trans jc).trans jd
 have oo := ((((((((((((((((jt.trans sf).trans ol).trans mi).trans mj).trans mk).trans mm).trans l7).trans ju).trans jv).trans jw).trans jx).trans jz).trans j1).trans ic).trans id).trans jc).trans jd
 obtain ⟨v17, q3, hm⟩ := Yb hm
 refine a0i ent11 Y Y Y Y kj (a8e _ _ _ _ q3 kj.sat (sg.mono on) (si.mono on) (s7.mono oo) (s8.mono oo)) ?_
 rintro _ q4 _ u8 gl kk ⟨rfl, rfl⟩
 have S0 := kk.Ys gl [0, 1, 2, 3, 4, 5, 6, 7, 8, 9, 10, 11] Y Y
 refine a0v S0 (d_tk 3 Y (by kernel_rfl) Y Y Y Y S0 (fun _ _ _ _ _ => a0d Y Y Y Yn) ?_)
 obtain ⟨v18, it, hm⟩ := Yb hm
 refine d2f (fuel' := 11) (listed' := #[true, true, true, true, true, true, true, true, false, false, false, false, false, false, false, false, false, false, false]) (fun a w' => ∃ (kl : Frz), Frz.le q4 kl ∧ HS F w [] kl [.box b15 37 [.int .i64 v12.1.P.Sign, .slice kc kd ke, .int .i64 v12.1.Q.Sign, .slice kf kg kh], .box b14 37 [.int .i64 v11.1.P.Sign, .slice k6 k7 k8, .int .i64 v11.1.Q.Sign, .slice k9 ka kb], .box b11 37 [.int .i64 v10.1.P.Sign, .slice k0 k1 k2, .int .i64 v10.1.Q.Sign, .slice k3 k4 k5], .box b10 24 [.int .i64 f9, .int .i64 f10, vs f11, .slice i9 ia ib], .box b9 24 [.int .i64 v9.Op, .int .i64 v9.N, vs v9.Name, .slice R T U], .box b8 37 [.int .i64 v6.1.P.Sign, .slice iv iw ix, .int .i64 v6.1.Q.Sign, .slice iy iz j0], .box b7 24 [.int .i64 f5, .int .i64 f6, vs f7, .slice ip iq ir], .box b6 37 [.int .i64 f1, .slice i3 i4 i5, .int .i64 f3, .slice i6 i7 i8], .box b5 24 [.int .i64 2, .int .i64 0, vs [], .slice none 0 0], .box b4 24 [.int .i64 4, .int .i64 0, vs [112, 97, 112, 101, 114], .slice none 0 0], .box b2 37 [.int .i64 v2.1.P.Sign, .slice hx hy hz, .int .i64 v2.1.Q.Sign, .slice i0 i1 i2], .box b1 37 [.int .i64 v1.1.P.Sign, .slice h8 h9 hb, .int .i64 v1.1.Q.Sign, .slice hc hd he]] w' ∧ Has 129 a [(15, .pointer (some ⟨b11, 0, none⟩)), (17, .pointer (some ⟨b14, 0, none⟩)), (118, .bool v18)]) ?_ (fun op => ?_)
 rintro a u9 ⟨kl, gu, km, q5⟩
 refine b8l q5 ?_
 have S1 := km.Ys (gl.trans gu) [0, 1, 2, 3, 4, 5, 6, 7, 8, 9, 10, 11] Y Y
 refine d_tk 8 Y (by kernel_rfl) Y Y Y Y S1 (fun _ _ _ _ _ => a0d Y Y Y Yn) ?_
 obtain ⟨v19, hh, hm⟩ := Yb hm
 refine d2f (fuel' := 6) (listed' := #[true, true, true, true, true, true, true, true, true, true, true, true, true, false, false, false, false, false, false]) (fun a w' => ∃ (kn : Frz), Frz.le kl kn ∧ HS F w [] kn [.box b15 37 [.int .i64 v12.1.P.Sign, .slice kc kd ke, .int .i64 v12.1.Q.Sign, .slice kf kg kh], .box b14 37 [.int .i64 v11.1.P.Sign, .slice k6 k7 k8, .int .i64 v11.1.Q.Sign, .slice k9 ka kb], .box b11 37 [.int .i64 v10.1.P.Sign, .slice k0 k1 k2, .int .i64 v10.1.Q.Sign, .slice k3 k4 k5], .box b10 24 [.int .i64 f9, .int .i64 f10, vs f11, .slice i9 ia ib], .box b9 24 [.int .i64 v9.Op, .int .i64 v9.N, vs v9.Name, .slice R T U], .box b8 37 [.int .i64 v6.1.P.Sign, .slice iv iw ix, .int .i64 v6.1.Q.Sign, .slice iy iz j0], .box b7 24 [.int .i64 f5, .int .i64 f6, vs f7, .slice ip iq ir], .box b6 37 [.int .i64 f1, .slice i3 i4 i5, .int .i64 f3, .slice i6 i7 i8], .box b5 24 [.int .i64 2, .int .i64 0, vs [], .slice none 0 0], .box b4 24 [.int .i64 4, .int .i64 0, vs [112, 97, 112, 101, 114], .slice none 0 0], .box b2 37 [.int .i64 v2.1.P.Sign, .slice hx hy hz, .int .i64 v2.1.Q.Sign, .slice i0 i1 i2], .box b1 37 [.int .i64 v1.1.P.Sign, .slice h8 h9 hb, .int .i64 v1.1.Q.Sign, .slice hc hd he]] w' ∧ Has 129 a [(17, .pointer (some ⟨b14, 0, none⟩)), (123, .bool v19)]) ?_ (fun oq => ?_)
 rintro a ua ⟨kn, j2, ko, q6⟩
 refine b8l q6 ?_
 have S2 := ko.Ys ((gl.trans gu).trans j2) [0, 1, 2, 3, 4, 5, 6, 7, 8, 9, 10, 11] Y Y
 refine d_tk 13 Y (by kernel_rfl) Y Y Y Y S2 (fun _ _ _ _ _ => a0d Y Y Y Yn) ?_
 obtain ⟨v20, hi, hm⟩ := Yb hm
 refine d2f (fuel' := 1) (listed' := #[true, true, true, true, true, true, true, true, true, true, true, true, true, true, true, true, true, true, false]) (fun a w' => ∃ (l9 : Frz), Frz.le kn l9 ∧ HS F w [] l9 [.box b15 37 [.int .i64 v12.1.P.Sign, .slice kc kd ke, .int .i64 v12.1.Q.Sign, .slice kf kg kh], .box b14 37 [.int .i64 v11.1.P.Sign, .slice k6 k7 k8, .int .i64 v11.1.Q.Sign, .slice k9 ka kb], .box b11 37 [.int .i64 v10.1.P.Sign, .slice k0 k1 k2, .int .i64 v10.1.Q.Sign, .slice k3 k4 k5], .box b10 24 [.int .i64 f9, .int .i64 f10, vs f11, .slice i9 ia ib], .box b9 24 [.int .i64 v9.Op, .int .i64 v9.N, vs v9.Name, .slice R T U], .box b8 37 [.int .i64 v6.1.P.Sign, .slice iv iw ix, .int .i64 v6.1.Q.Sign, .slice iy iz j0], .box b7 24 [.int .i64 f5, .int .i64 f6, vs f7, .slice ip iq ir], .box b6 37 [.int .i64 f1, .slice i3 i4 i5, .int .i64 f3, .slice i6 i7 i8], .box b5 24 [.int .i64 2, .int .i64 0, vs [], .slice none 0 0], .box b4 24 [.int .i64 4, .int .i64 0, vs [112, 97, 112, 101, 114], .slice none 0 0], .box b2 37 [.int .i64 v2.1.P.Sign, .slice hx hy hz, .int .i64 v2.1.Q.Sign, .slice i0 i1 i2], .box b1 37 [.int .i64 v1.1.P.Sign, .slice h8 h9 hb, .int .i64 v1.1.Q.Sign, .slice hc hd he]] w' ∧ Has 129 a [(128, .bool v20)]) ?_ (fun os => ?_)
 rintro a ub ⟨l9, q7, o0, og⟩
 refine b8l og (d_tk 18 Y (by kernel_rfl) Y Y Y Y (o0.Ys (((gl.trans gu).trans j2).trans q7) [0, 1, 2, 3, 4, 5, 6, 7, 8, 9, 10, 11] Y Y) (fun _ _ _ _ _ => a0b Y Y Y Yn) (a2u (by kernel_rfl) (a0c (a1c (a1n Y Y ?_)))))
 obtain rfl := Yo hm
 exact ⟨_, _, _, Y, o0.Yp [] Y Y, Y, Y⟩
 clear hm
 rcases a0h hi with ⟨la, hi⟩ | ⟨la, hi⟩
 refine c4a 124 Y la (d_tk 14 Y (by kernel_rfl) Y Y Y Y S2 (fun _ _ _ _ hq => a0q ag37 sz37 Y Y hq Y (i := 1) Y Y Yn) (a0z 15 Y (by kernel_rfl) ?_))
 obtain ⟨v21, q8, hi⟩ := Yb hi
 refine a0i ent13 Y Y Y Y ko (b1w _ _ _ q8 ko.sat) ?_
 rintro _ uc _ ud je lb ⟨ue, uf, ug, uh, ui, uj, rfl, rfl, q9, qa⟩
 refine a0v (lb.Ys (((gl.trans gu).trans j2).trans je) [0, 1, 2, 3, 4, 5, 6, 7, 8, 9, 10, 11] Y Y) (a0z 16 Y (by kernel_rfl) ?_)
 have ot := (((jd.trans gl).trans gu).trans j2).trans je
 obtain ⟨v22, qb, hi⟩ := Yb hi
 refine a0i ent11 Y Y Y Y lb (a8e _ _ _ _ qb lb.sat (ps.mono ot) (pt.mono ot) q9 qa) ?_
 rintro _ uk _ ul lc ld ⟨rfl, rfl⟩
 refine a0v (ld.sh ((((gl.trans gu).trans j2).trans je).trans lc) [0, 1, 2, 3, 4, 5, 6, 7, 8, 9, 10, 11] (by decide) Y) (d_tk 17 Y (by kernel_rfl) Y Y Y Y (ld.sh ((((gl.trans gu).trans j2).trans je).trans lc) [0, 1, 2, 3, 4, 5, 6, 7, 8, 9, 10, 11] (by decide) Y) (fun _ _ _ _ _ => a0s Y Y Y Y Yn) (c3x os (by kernel_rfl) (fun a ha => ?_)))
 cases hi
 exact ⟨_, (je.trans lc), ld.Yp [0, 1, 2, 3, 4, 5, 6, 7, 8, 9, 10, 11] Y Y, ha.cut (l := [128]) Y⟩
 refine c4a 124 Y la (d_of 14 Y (by kernel_rfl) Y Y Y S2 (d_of 15 Y (by kernel_rfl) Y Y Y S2 (d_of 16 Y (by kernel_rfl) Y Y Y S2 (d_tk 17 Y (by kernel_rfl) Y Y Y Y S2 (fun _ _ _ _ _ => a0m Y Y Y Y Yn) (c3x os (by kernel_rfl) (fun a ha => ?_))))))
 cases hi
 exact ⟨_, Yf, ko.Yp [0, 1, 2, 3, 4, 5, 6, 7, 8, 9, 10, 11] Y Y, ha.cut (l := [128]) Y⟩
 clear hm
 rcases a0h hh with ⟨lf, hh⟩ | ⟨lf, hh⟩
 refine c4a 119 Y lf (d_tk 9 Y (by kernel_rfl) Y Y Y Y S1 (fun _ _ _ _ hq => a0q ag37 sz37 Y Y hq Y (i := 2) Y Y Yn) (a0z 10 Y (by kernel_rfl) ?_))
 obtain ⟨v23, qc, hh⟩ := Yb hh
 refine a0i ent13 Y Y Y Y km (b1w _ _ _ qc km.sat) ?_
 rintro _ um _ un jf lg ⟨uo, up, uq, ur, us, ut, rfl, rfl, qd, qe⟩
 refine a0v (lg.Ys ((gl.trans gu).trans jf) [0, 1, 2, 3, 4, 5, 6, 7, 8, 9, 10, 11] Y Y) (a0z 11 Y (by kernel_rfl) ?_)
 have ou := (((((ic.trans id).trans jc).trans jd).trans gl).trans gu).trans jf
 obtain ⟨v24, qf, hh⟩ := Yb hh
 refine a0i ent11 Y Y Y Y lg (a8e _ _ _ _ qf lg.sat (pk.mono ou) (pl.mono ou) qd qe) ?_
 rintro _ uu _ uv lh li ⟨rfl, rfl⟩
 refine a0v (li.Ys (((gl.trans gu).trans jf).trans lh) [0, 1, 2, 3, 4, 5, 6, 7, 8, 9, 10, 11] Y Y) (d_tk 12 Y (by kernel_rfl) Y Y Y Y (li.Ys (((gl.trans gu).trans jf).trans lh) [0, 1, 2, 3, 4, 5, 6, 7, 8, 9, 10, 11] Y Y) (fun _ _ _ _ _ => a0s Y Y Y Y Yn) (c3x oq (by kernel_rfl) (fun a ha => ?_)))
 cases hh
 exact ⟨_, (jf.trans lh), li.Yp [0, 1, 2, 3, 4, 5, 6, 7, 8, 9, 10, 11] Y Y, ha.cut (l := [17, 123]) Y⟩
 refine c4a 119 Y lf (d_of 9 Y (by kernel_rfl) Y Y Y S1 (d_of 10 Y (by kernel_rfl) Y Y Y S1 (d_of 11 Y (by kernel_rfl) Y Y Y S1 (d_tk 12 Y (by kernel_rfl) Y Y Y Y S1 (fun _ _ _ _ _ => a0m Y Y Y Y Yn) (c3x oq (by kernel_rfl) (fun a ha => ?_))))))
 cases hh
 exact ⟨_, Yf, km.Yp [0, 1, 2, 3, 4, 5, 6, 7, 8, 9, 10, 11] Y Y, ha.cut (l := [17, 123]) Y⟩
 clear hm
 rcases a0h it with ⟨lj, it⟩ | ⟨lj, it⟩
 refine c4a 114 Y lj (d_tk 4 Y (by kernel_rfl) Y Y Y Y S0 (fun _ _ _ _ hq => a0q ag37 sz37 Y Y hq Y (i := 5) Y Y Yn) (a0z 5 Y (by kernel_rfl) ?_))
 obtain ⟨v25, qg, it⟩ := Yb it
 refine a0i ent13 Y Y Y Y kk (b1w _ _ _ qg kk.sat) ?_
 rintro _ uw _ ux jg lk ⟨uy, uz, v0, va, vb, vc, rfl, rfl, qh, qi⟩
 refine a0v (lk.Ys (gl.trans jg) [0, 1, 2, 3, 4, 5, 6, 7, 8, 9, 10, 11] Y Y) (a0z 6 Y (by kernel_rfl) ?_)
 have ov := ((((((((((ju.trans jv).trans jw).trans jx).trans jz).trans j1).trans ic).trans id).trans jc).trans jd).trans gl).trans jg
 obtain ⟨v26, qj, it⟩ := Yb it
 refine a0i ent11 Y Y Y Y lk (a8e _ _ _ _ qj lk.sat (p8.mono ov) (p9.mono ov) qh qi) ?_
 rintro _ vd _ ve ll lm ⟨rfl, rfl⟩
 refine a0v (lm.Ys ((gl.trans jg).trans ll) [0, 1, 2, 3, 4, 5, 6, 7, 8, 9, 10, 11] Y Y) (d_tk 7 Y (by kernel_rfl) Y Y Y Y (lm.Ys ((gl.trans jg).trans ll) [0, 1, 2, 3, 4, 5, 6, 7, 8, 9, 10, 11] Y Y) (fun _ _ _ _ _ => a0s Y Y Y Y Yn) (c3x op (by kernel_rfl) (fun a ha => ?_)))
 cases it
 exact ⟨_, (jg.trans ll), lm.Yp [0, 1, 2, 3, 4, 5, 6, 7, 8, 9, 10, 11] Y Y, ha.cut (l := [15, 17, 118]) Y⟩
 refine c4a 114 Y lj (d_of 4 Y (by kernel_rfl) Y Y Y S0 (d_of 5 Y (by kernel_rfl) Y Y Y S0 (d_of 6 Y (by kernel_rfl) Y Y Y S0 (d_tk 7 Y (by kernel_rfl) Y Y Y Y S0 (fun _ _ _ _ _ => a0m Y Y Y Y Yn) (c3x op (by kernel_rfl) (fun a ha => ?_))))))
 cases it
 exact ⟨_, Yf, kk.Yp [0, 1, 2, 3, 4, 5, 6, 7, 8, 9, 10, 11] Y Y, ha.cut (l := [15, 17, 118]) Y⟩
 clear hm
 rcases a0h l5 with ⟨ln, l5⟩ | ⟨ln, l5⟩
 refine a1k 107 Y ln (a0y Y (by decide) Y (a0y Y (by decide) Y (a0s Y Y Y Y (a0e (a0k (fun a ha => ?_))))))
 cases l5
 exact ⟨Y, ha.cut (l := [3, 8, 11, 15, 17, 110]) Y⟩
 refine a1k 107 Y ln (a0d Y Y Y (a0u Y Y Y Y Y (a0m Y Y Y Y (a0e (a0k (fun a ha => ?_))))))
 cases l5
 exact ⟨Y, ha.cut (l := [3, 8, 11, 15, 17, 110]) Y⟩
 clear hm
 rcases a0h l4 with ⟨lo, l4⟩ | ⟨lo, l4⟩
 refine a1k 103 Y lo (a0y Y (by decide) Y (a0y Y (by decide) Y (a0s Y Y Y Y (a0e (a0k (fun a ha => ?_))))))
 cases l4
 exact ⟨Y, ha.cut (l := [3, 8, 11, 15, 17, 20, 106]) Y⟩
 refine a1k 103 Y lo (a0d Y Y Y (a0u Y Y Y Y Y (a0m Y Y Y Y (a0e (a0k (fun a ha => ?_))))))
 cases l4
 exact ⟨Y, ha.cut (l := [3, 8, 11, 15, 17, 20, 106]) Y⟩
 clear hm
 rcases a0h l3 with ⟨lp, l3⟩ | ⟨lp, l3⟩
 refine a1k 99 Y lp (a0y Y (by decide) Y (a0y Y (by decide) Y (a0s Y Y Y Y (a0e (a0k (fun a ha => ?_))))))
 cases l3
 exact ⟨Y, ha.cut (l := [3, 8, 11, 15, 17, 18, 20, 102]) Y⟩
 refine a1k 99 Y lp (a0d Y Y Y (a0u Y Y Y Y Y (a0m Y Y Y Y (a0e (a0k (fun a ha => ?_))))))
 cases l3
 exact ⟨Y, ha.cut (l := [3, 8, 11, 15, 17, 18, 20, 102]) Y⟩
 clear hm
 rcases a0h l2 with ⟨lq, l2⟩ | ⟨lq, l2⟩
 refine a1k 95 Y lq (a0y Y (by decide) Y (a0y Y (by decide) Y (a0s Y Y Y Y (a0e (a0k (fun a ha => ?_))))))
 cases l2
 exact ⟨Y, ha.cut (l := [3, 8, 11, 15, 16, 17, 18, 20, 98]) Y⟩
 refine a1k 95 Y lq (a0d Y Y Y (a0u Y Y Y Y Y (a0m Y Y Y Y (a0e (a0k (fun a ha => ?_))))))
 cases l2
 exact ⟨Y, ha.cut (l := [3, 8, 11, 15, 16, 17, 18, 20, 98]) Y⟩
 clear hm
 refine a2f (SH mr [.box b9 24 [.int .i64 v9.Op, .int .i64 v9.N, vs v9.Name, .slice R T U], .box b8 37 [.int .i64 v6.1.P.Sign, .slice iv iw ix, .int .i64 v6.1.Q.Sign, .slice iy iz j0], .box b7 24 [.int .i64 f5, .int .i64 f6, vs f7, .slice ip iq ir], .box b6 37 [.int .i64 f1, .slice i3 i4 i5, .int .i64 f3, .slice i6 i7 i8], .box b5 24 [.int .i64 2, .int .i64 0, vs [], .slice none 0 0], .box b4 24 [.int .i64 4, .int .i64 0, vs [112, 97, 112, 101, 114], .slice none 0 0], .box b2 37 [.int .i64 v2.1.P.Sign, .slice hx hy hz, .int .i64 v2.1.Q.Sign, .slice i0 i1 i2], .box b1 37 [.int .i64 v1.1.P.Sign, .slice h8 h9 hb, .int .i64 v1.1.Q.Sign, .slice hc hd he]]) 10 Y (by kernel_rfl) pg ?_
 intro vf jh
 refine d_tk 0 Y (by kernel_rfl) Y Y Y Y (jh.Ys Yf [0, 1, 2, 3, 4, 5, 6, 7] Y Y) (fun _ _ _ _ hq => a0q ag24 sz24 Y Y hq Y (i := 4) Y Y Yn) (d_tk 5 Y (by kernel_rfl) Y Y Y Y (jh.Ys Yf [0, 1, 2, 3, 4, 5, 6, 7] Y Y) (fun _ _ _ _ hq => a0q ag24 sz24 Y Y hq Y (i := 0) Y Y Yn) (b0p 1 8 Y Y (by kernel_rfl) ?_ ?_))
 obtain ⟨v27, lr, z⟩ := Yb z
 refine a0i ent17 Y Y Y Y jh (a3e _ _ _ lr jh.sat) ?_
 rintro _ qk _ ql g ie ⟨qm, qn, qo, rfl, rfl, kp⟩
 refine a0v (ie.Ys g [0, 1, 2, 3, 4, 5, 6, 7] Y Y) (b0p 2 8 Y Y (by kernel_rfl) ?_ ?_)
 obtain ⟨v28, ji, z⟩ := Yb z
 refine a0i ent16 Y Y Y Y ie (a3a _ _ _ _ ji ie.sat (SlR.nil _ _) kp) ?_
 rintro _ o1 _ o2 k gv ⟨o3, o4, o5, xss31, rfl, rfl, j3⟩
 refine a0v (gv.Ys (g.trans k) [1, 2, 3, 4, 5, 6, 7, 8] Y Y) (b0p 3 8 Y Y (by kernel_rfl) ?_ ?_)
 obtain ⟨ls, p, gw, hsx6⟩ := a1g gv (i := 0) Y j3
 obtain ⟨v29, il, z⟩ := Yb z
 refine a0i ent15 Y Y Y Y gw (a1v _ _ _ _ il gw.sat hsx6) ?_
 rintro _ lt _ lu s gm ⟨g5, g6, g7, rfl, rfl, hf⟩
 refine a0v (gm.Ys (((g.trans k).trans p).trans s) [0, 1, 2, 3, 4, 5, 6, 7] Y Y) (b0p 4 8 Y Y (by kernel_rfl) ?_ ?_)
 obtain ⟨v30, hj, z⟩ := Yb z
 refine a0i ent17 Y Y Y Y gm (a3e _ _ _ hj gm.sat) ?_
 rintro _ gx _ kq m gd ⟨g0, g1, g2, rfl, rfl, gy⟩
 refine a0v (gd.sh ((((g.trans k).trans p).trans s).trans m) [0, 1, 2, 3, 4, 5, 6, 7] (by decide) Y) (b0p 6 8 Y Y (by kernel_rfl) ?_ ?_)
 refine a1f (e := 24) (cs := [.int .i64 v29.Op, .int .i64 v29.N, vs v29.Name, .slice g5 g6 g7, .int .i64 v30.Op, .int .i64 v30.N, vs v30.Name, .slice g0 g1 g2, .int .i64 v9.Op, .int .i64 v9.N, vs v9.Name, .slice R T U]) (q := 4) Y Y gd Y (fun _ => by kernel_rfl) Y Y ?_
 intro b16 jj gg
 refine a0v (gg.sh ((((g.trans k).trans p).trans s).trans m) [1, 2, 3, 4, 5, 6, 7, 8] (by decide) Y) (b0p 7 8 Y Y (by kernel_rfl) ?_ ?_)
 obtain ⟨j4, L, g9, hsx7⟩ := a1g gg (i := 0) Y ((show RowN rp_Expr gx 3 [.int .i64 v29.Op, .int .i64 v29.N, vs v29.Name, .slice g5 g6 g7, .int .i64 v30.Op, .int .i64 v30.N, vs v30.Name, .slice g0 g1 g2, .int .i64 v9.Op, .int .i64 v9.N, vs v9.Name, .slice R T U] [v29, v30, v9] from ⟨Y, ⟨_, _, Y, (expr_iff.2 ⟨g5, g6, g7, Y, (hf.mono m)⟩), ⟨_, _, Y, (expr_iff.2 ⟨g0, g1, g2, Y, gy⟩), ⟨_, _, Y, (expr_iff.2 ⟨R, T, U, Y, (((((ik.mono g).mono k).mono p).mono s).mono m)⟩), (Y : RowR rp_Expr _ [] [])⟩⟩⟩⟩))
 obtain ⟨v31, gn, z⟩ := Yb z
 refine a0i ent15 Y Y Y Y g9 (a1v _ _ _ _ gn g9.sat hsx7) ?_
 rintro _ j5 _ j6 M ga ⟨go, gp, gq, rfl, rfl, gr⟩
 refine a0v (ga.sh ((((((g.trans k).trans p).trans s).trans m).trans L).trans M) [0, 1, 2, 3, 4, 5, 6, 7] (by decide) Y) (a0z 8 Y (by kernel_rfl) (a1h ze24 Y Y Y ga ?_))
 intro b17 j7 gb
 refine a0v (gb.sh ((((((g.trans k).trans p).trans s).trans m).trans L).trans M) [1, 2, 3, 4, 5, 6, 7, 8] (by decide) Y) (a0z 9 Y (by kernel_rfl) (a0o sz24 Y gb Y Y Y Y (i := 0) Y Y Y Y ?_))
 intro j8 gc
 refine a0v (gc.sh ((((((g.trans k).trans p).trans s).trans m).trans L).trans M) [1, 2, 3, 4, 5, 6, 7, 8] (by decide) Y) (a2u (by kernel_rfl) (a0k (fun a ha => ?_)))
 cases z
 exact ⟨_, b17, go, gp, gq, ((((((g.trans k).trans p).trans s).trans m).trans L).trans M), gc.Yp [0, 1, 2, 3, 4, 5, 6, 7, 8] Y Y, gr, ha.cut (l := [3, 5, 8, 9, 11, 12, 14]) Y⟩
 refine a1h ze24 Y Y Y gg ?_
 intro b17 j6 g9
 refine a0v (g9.sh ((((g.trans k).trans p).trans s).trans m) [2, 3, 4, 5, 6, 7, 8, 9] (by decide) Y) (a0z 7 Y (by kernel_rfl) ?_)
 obtain ⟨j4, L, ga, hsx7⟩ := a1g g9 (i := 1) Y ((show RowN rp_Expr gx 3 [.int .i64 v29.Op, .int .i64 v29.N, vs v29.Name, .slice g5 g6 g7, .int .i64 v30.Op, .int .i64 v30.N, vs v30.Name, .slice g0 g1 g2, .int .i64 v9.Op, .int .i64 v9.N, vs v9.Name, .slice R T U] [v29, v30, v9] from ⟨Y, ⟨_, _, Y, (expr_iff.2 ⟨g5, g6, g7, Y, (hf.mono m)⟩), ⟨_, _, Y, (expr_iff.2 ⟨g0, g1, g2, Y, gy⟩), ⟨_, _, Y, (expr_iff.2 ⟨R, T, U, Y, (((((ik.mono g).mono k).mono p).mono s).mono m)⟩), (Y : RowR rp_Expr _ [] [])⟩⟩⟩⟩))
 obtain ⟨v31, gn, z⟩ := Yb z
 refine a0i ent15 Y Y Y Y ga (a1v _ _ _ _ gn ga.sat hsx7) ?_
 rintro _ j5 _ j7 M gb ⟨go, gp, gq, rfl, rfl, gr⟩
 refine a0v (gb.sh ((((((g.trans k).trans p).trans s).trans m).trans L).trans M) [1, 2, 3, 4, 5, 6, 7, 8] (by decide) Y) (a0z 9 Y (by kernel_rfl) (a0o sz24 Y gb Y Y Y Y (i := 0) Y Y Y Y ?_))
 intro j8 gc
 refine a0v (gc.sh ((((((g.trans k).trans p).trans s).trans m).trans L).trans M) [1, 2, 3, 4, 5, 6, 7, 8] (by decide) Y) (a2u (by kernel_rfl) (a0k (fun a ha => ?_)))
 cases z
 exact ⟨_, b17, go, gp, gq, ((((((g.trans k).trans p).trans s).trans m).trans L).trans M), gc.Yp [0, 1, 2, 3, 4, 5, 6, 7, 8] Y Y, gr, ha.cut (l := [3, 5, 8, 9, 11, 12, 14]) Y⟩
 refine a1h ze24 Y Y Y gd ?_
 intro b16 jj gg
 refine a0v (gg.sh ((((g.trans k).trans p).trans s).trans m) [1, 2, 3, 4, 5, 6, 7, 8] (by decide) Y) (a0z 6 Y (by kernel_rfl) (a1f (e := 24) (cs := [.int .i64 v29.Op, .int .i64 v29.N, vs v29.Name, .slice g5 g6 g7, .int .i64 v30.Op, .int .i64 v30.N, vs v30.Name, .slice g0 g1 g2, .int .i64 v9.Op, .int .i64 v9.N, vs v9.Name, .slice R T U]) (q := 4) Y Y gg Y (fun _ => by kernel_rfl) Y Y ?_))
 intro b17 j6 g9
 refine a0v (g9.sh ((((g.trans k).trans p).trans s).trans m) [2, 3, 4, 5, 6, 7, 8, 9] (by decide) Y) (a0z 7 Y (by kernel_rfl) ?_)
 obtain ⟨j4, L, ga, hsx7⟩ := a1g g9 (i := 0) Y ((show RowN rp_Expr gx 3 [.int .i64 v29.Op, .int .i64 v29.N, vs v29.Name, .slice g5 g6 g7, .int .i64 v30.Op, .int .i64 v30.N, vs v30.Name, .slice g0 g1 g2, .int .i64 v9.Op, .int .i64 v9.N, vs v9.Name, .slice R T U] [v29, v30, v9] from ⟨Y, ⟨_, _, Y, (expr_iff.2 ⟨g5, g6, g7, Y, (hf.mono m)⟩), ⟨_, _, Y, (expr_iff.2 ⟨g0, g1, g2, Y, gy⟩), ⟨_, _, Y, (expr_iff.2 ⟨R, T, U, Y, (((((ik.mono g).mono k).mono p).mono s).mono m)⟩), (Y : RowR rp_Expr _ [] [])⟩⟩⟩⟩))
 obtain ⟨v31, gn, z⟩ := Yb z
 refine a0i ent15 Y Y Y Y ga (a1v _ _ _ _ gn ga.sat hsx7) ?_
 rintro _ j5 _ j7 M gb ⟨go, gp, gq, rfl, rfl, gr⟩
 refine a0v (gb.sh ((((((g.trans k).trans p).trans s).trans m).trans L).trans M) [1, 2, 3, 4, 5, 6, 7, 8] (by decide) Y) (a0z 9 Y (by kernel_rfl) (a0o sz24 Y gb Y Y Y Y (i := 0) Y Y Y Y ?_))
 intro j8 gc
 refine a0v (gc.sh ((((((g.trans k).trans p).trans s).trans m).trans L).trans M) [1, 2, 3, 4, 5, 6, 7, 8] (by decide) Y) (a2u (by kernel_rfl) (a0k (fun a ha => ?_)))
 cases z
 exact ⟨_, b16, go, gp, gq, ((((((g.trans k).trans p).trans s).trans m).trans L).trans M), gc.Yp [0, 1, 2, 3, 4, 5, 6, 7, 8] Y Y, gr, ha.cut (l := [3, 5, 8, 9, 11, 12, 14]) Y⟩
 refine a1h ze24 Y Y Y gm ?_
 intro b16 kq gd
 refine a0v (gd.Ys (((g.trans k).trans p).trans s) [1, 2, 3, 4, 5, 6, 7, 8] Y Y) (a0z 4 Y (by kernel_rfl) ?_)
 obtain ⟨v30, hj, z⟩ := Yb z
 refine a0i ent17 Y Y Y Y gd (a3e _ _ _ hj gd.sat) ?_
 rintro _ gx _ jj m gg ⟨g0, g1, g2, rfl, rfl, gy⟩
 refine a0v (gg.sh ((((g.trans k).trans p).trans s).trans m) [1, 2, 3, 4, 5, 6, 7, 8] (by decide) Y) (a0z 6 Y (by kernel_rfl) (a1f (e := 24) (cs := [.int .i64 v29.Op, .int .i64 v29.N, vs v29.Name, .slice g5 g6 g7, .int .i64 v30.Op, .int .i64 v30.N, vs v30.Name, .slice g0 g1 g2, .int .i64 v9.Op, .int .i64 v9.N, vs v9.Name, .slice R T U]) (q := 4) Y Y gg Y (fun _ => by kernel_rfl) Y Y ?_))
 intro b17 j6 g9
 refine a0v (g9.sh ((((g.trans k).trans p).trans s).trans m) [2, 3, 4, 5, 6, 7, 8, 9] (by decide) Y) (a0z 7 Y (by kernel_rfl) ?_)
 obtain ⟨j4, L, ga, hsx7⟩ := a1g g9 (i := 0) Y ((show RowN rp_Expr gx 3 [.int .i64 v29.Op, .int .i64 v29.N, vs v29.Name, .slice g5 g6 g7, .int .i64 v30.Op, .int .i64 v30.N, vs v30.Name, .slice g0 g1 g2, .int .i64 v9.Op, .int .i64 v9.N, vs v9.Name, .slice R T U] [v29, v30, v9] from ⟨Y, ⟨_, _, Y, (expr_iff.2 ⟨g5, g6, g7, Y, (hf.mono m)⟩), ⟨_, _, Y, (expr_iff.2 ⟨g0, g1, g2, Y, gy⟩), ⟨_, _, Y, (expr_iff.2 ⟨R, T, U, Y, (((((ik.mono g).mono k).mono p).mono s).mono m)⟩), (Y : RowR rp_Expr _ [] [])⟩⟩⟩⟩))
 obtain ⟨v31, gn, z⟩ := Yb z
 refine a0i ent15 Y Y Y Y ga (a1v _ _ _ _ gn ga.sat hsx7) ?_
 rintro _ j5 _ j7 M gb ⟨go, gp, gq, rfl, rfl, gr⟩
 refine a0v (gb.sh ((((((g.trans k).trans p).trans s).trans m).trans L).trans M) [1, 2, 3, 4, 5, 6, 7, 8] (by decide) Y) (a0z 9 Y (by kernel_rfl) (a0o sz24 Y gb Y Y Y Y (i := 0) Y Y Y Y ?_))
 intro j8 gc
 refine a0v (gc.sh ((((((g.trans k).trans p).trans s).trans m).trans L).trans M) [1, 2, 3, 4, 5, 6, 7, 8] (by decide) Y) (a2u (by kernel_rfl) (a0k (fun a ha => ?_)))
 cases z
 exact ⟨_, b16, go, gp, gq, ((((((g.trans k).trans p).trans s).trans m).trans L).trans M), gc.Yp [0, 1, 2, 3, 4, 5, 6, 7, 8] Y Y, gr, ha.cut (l := [3, 5, 8, 9, 11, 12, 14]) Y⟩
 refine a1h ze24 Y Y Y gv ?_
 intro b16 lu gw
 refine a0v (gw.Ys (g.trans k) [2, 3, 4, 5, 6, 7, 8, 9] Y Y) (a0z 3 Y (by kernel_rfl) ?_)
 obtain ⟨ls, p, gm, hsx6⟩ := a1g gw (i := 1) Y j3
 obtain ⟨v29, il, z⟩ := Yb z
 refine a0i ent15 Y Y Y Y gm (a1v _ _ _ _ il gm.sat hsx6) ?_
 rintro _ lt _ kq s gd ⟨g5, g6, g7, rfl, rfl, hf⟩
 refine a0v (gd.Ys (((g.trans k).trans p).trans s) [1, 2, 3, 4, 5, 6, 7, 8] Y Y) (a0z 4 Y (by kernel_rfl) ?_)
 obtain ⟨v30, hj, z⟩ := Yb z
 refine a0i ent17 Y Y Y Y gd (a3e _ _ _ hj gd.sat) ?_
 rintro _ gx _ jj m gg ⟨g0, g1, g2, rfl, rfl, gy⟩
 refine a0v (gg.sh ((((g.trans k).trans p).trans s).trans m) [1, 2, 3, 4, 5, 6, 7, 8] (by decide) Y) (a0z 6 Y (by kernel_rfl) (a1f (e := 24) (cs := [.int .i64 v29.Op, .int .i64 v29.N, vs v29.Name, .slice g5 g6 g7, .int .i64 v30.Op, .int .i64 v30.N, vs v30.Name, .slice g0 g1 g2, .int .i64 v9.Op, .int .i64 v9.N, vs v9.Name, .slice R T U]) (q := 4) Y Y gg Y (fun _ => by kernel_rfl) Y Y ?_))
 intro b17 j6 g9
 refine a0v (g9.sh ((((g.trans k).trans p).trans s).trans m) [2, 3, 4, 5, 6, 7, 8, 9] (by decide) Y) (a0z 7 Y (by kernel_rfl) ?_)
 obtain ⟨j4, L, ga, hsx7⟩ := a1g g9 (i := 0) Y ((show RowN rp_Expr gx 3 [.int .i64 v29.Op, .int .i64 v29.N, vs v29.Name, .slice g5 g6 g7, .int .i64 v30.Op, .int .i64 v30.N, vs v30.Name, .slice g0 g1 g2, .int .i64 v9.Op, .int .i64 v9.N, vs v9.Name, .slice R T U] [v29, v30, v9] from ⟨Y, ⟨_, _, Y, (expr_iff.2 ⟨g5, g6, g7, Y, (hf.mono m)⟩), ⟨_, _, Y, (expr_iff.2 ⟨g0, g1, g2, Y, gy⟩), ⟨_, _, Y, (expr_iff.2 ⟨R, T, U, Y, (((((ik.mono g).mono k).mono p).mono s).mono m)⟩), (Y : RowR rp_Expr _ [] [])⟩⟩⟩⟩))
 obtain ⟨v31, gn, z⟩ := Yb z
 refine a0i ent15 Y Y Y Y ga (a1v _ _ _ _ gn ga.sat hsx7) ?_
 rintro _ j5 _ j7 M gb ⟨go, gp, gq, rfl, rfl, gr⟩
 refine a0v (gb.sh ((((((g.trans k).trans p).trans s).trans m).trans L).trans M) [1, 2, 3, 4, 5, 6, 7, 8] (by decide) Y) (a0z 9 Y (by kernel_rfl) (a0o sz24 Y gb Y Y Y Y (i := 0) Y Y Y Y ?_))
 intro j8 gc
 refine a0v (gc.sh ((((((g.trans k).trans p).trans s).trans m).trans L).trans M) [1, 2, 3, 4, 5, 6, 7, 8] (by decide) Y) (a2u (by kernel_rfl) (a0k (fun a ha => ?_)))
 cases z
 exact ⟨_, b16, go, gp, gq, ((((((g.trans k).trans p).trans s).trans m).trans L).trans M), gc.Yp [0, 1, 2, 3, 4, 5, 6, 7, 8] Y Y, gr, ha.cut (l := [3, 5, 8, 9, 11, 12, 14]) Y⟩
 refine a1h ze24 Y Y Y ie ?_
 intro b16 o2 gv
 refine a0v (gv.Ys g [1, 2, 3, 4, 5, 6, 7, 8] Y Y) (a0z 2 Y (by kernel_rfl) ?_)
 obtain ⟨v28, ji, z⟩ := Yb z
 refine a0i ent16 Y Y Y Y gv (a3a _ _ _ _ ji gv.sat (SlR.nil _ _) kp) ?_
 rintro _ o1 _ lu k gw ⟨o3, o4, o5, xss31, rfl, rfl, j3⟩
 refine a0v (gw.Ys (g.trans k) [2, 3, 4, 5, 6, 7, 8, 9] Y Y) (a0z 3 Y (by kernel_rfl) ?_)
 obtain ⟨ls, p, gm, hsx6⟩ := a1g gw (i := 0) Y j3
 obtain ⟨v29, il, z⟩ := Yb z
 refine a0i ent15 Y Y Y Y gm (a1v _ _ _ _ il gm.sat hsx6) ?_
 rintro _ lt _ kq s gd ⟨g5, g6, g7, rfl, rfl, hf⟩
 refine a0v (gd.Ys (((g.trans k).trans p).trans s) [1, 2, 3, 4, 5, 6, 7, 8] Y Y) (a0z 4 Y (by kernel_rfl) ?_)
 obtain ⟨v30, hj, z⟩ := Yb z
 refine a0i ent17 Y Y Y Y gd (a3e _ _ _ hj gd.sat) ?_
 rintro _ gx _ jj m gg ⟨g0, g1, g2, rfl, rfl, gy⟩
 refine a0v (gg.sh ((((g.trans k).trans p).trans s).trans m) [1, 2, 3, 4, 5, 6, 7, 8] (by decide) Y) (a0z 6 Y (by kernel_rfl) (a1f (e := 24) (cs := [.int .i64 v29.Op, .int .i64 v29.N, vs v29.Name, .slice g5 g6 g7, .int .i64 v30.Op, .int .i64 v30.N, vs v30.Name, .slice g0 g1 g2, .int .i64 v9.Op, .int .i64 v9.N, vs v9.Name, .slice R T U]) (q := 4) Y Y gg Y (fun _ => by kernel_rfl) Y Y ?_))
 intro b17 j6 g9
 refine a0v (g9.sh ((((g.trans k).trans p).trans s).trans m) [2, 3, 4, 5, 6, 7, 8, 9] (by decide) Y) (a0z 7 Y (by kernel_rfl) ?_)
 obtain ⟨j4, L, ga, hsx7⟩ := a1g g9 (i := 0) Y ((show RowN rp_Expr gx 3 [.int .i64 v29.Op, .int .i64 v29.N, vs v29.Name, .slice g5 g6 g7, .int .i64 v30.Op, .int .i64 v30.N, vs v30.Name, .slice g0 g1 g2, .int .i64 v9.Op, .int .i64 v9.N, vs v9.Name, .slice R T U] [v29, v30, v9] from ⟨Y, ⟨_, _, Y, (expr_iff.2 ⟨g5, g6, g7, Y, (hf.mono m)⟩), ⟨_, _, Y, (expr_iff.2 ⟨g0, g1, g2, Y, gy⟩), ⟨_, _, Y, (expr_iff.2 ⟨R, T, U, Y, (((((ik.mono g).mono k).mono p).mono s).mono m)⟩), (Y : RowR rp_Expr _ [] [])⟩⟩⟩⟩))
 obtain ⟨v31, gn, z⟩ := Yb z
 refine a0i ent15 Y Y Y Y ga (a1v _ _ _ _ gn ga.sat hsx7) ?_
 rintro _ j5 _ j7 M gb ⟨go, gp, gq, rfl, rfl, gr⟩
 refine a0v (gb.sh ((((((g.trans k).trans p).trans s).trans m).trans L).trans M) [1, 2, 3, 4, 5, 6, 7, 8] (by decide) Y) (a0z 9 Y (by kernel_rfl) (a0o sz24 Y gb Y Y Y Y (i := 0) Y Y Y Y ?_))
 intro j8 gc
 refine a0v (gc.sh ((((((g.trans k).trans p).trans s).trans m).trans L).trans M) [1, 2, 3, 4, 5, 6, 7, 8] (by decide) Y) (a2u (by kernel_rfl) (a0k (fun a ha => ?_)))
 cases z
 exact ⟨_, b16, go, gp, gq, ((((((g.trans k).trans p).trans s).trans m).trans L).trans M), gc.Yp [0, 1, 2, 3, 4, 5, 6, 7, 8] Y Y, gr, ha.cut (l := [3, 5, 8, 9, 11, 12, 14]) Y⟩
 refine a1h ze24 Y Y Y jh ?_
 intro b16 ql ie
 refine a0v (ie.Ys Yf [1, 2, 3, 4, 5, 6, 7, 8] Y Y) (a0z 1 Y (by kernel_rfl) ?_)
 obtain ⟨v27, lr, z⟩ := Yb z
 refine a0i ent17 Y Y Y Y ie (a3e _ _ _ lr ie.sat) ?_
 rintro _ qk _ o2 g gv ⟨qm, qn, qo, rfl, rfl, kp⟩
 refine a0v (gv.Ys g [1, 2, 3, 4, 5, 6, 7, 8] Y Y) (a0z 2 Y (by kernel_rfl) ?_)
 obtain ⟨v28, ji, z⟩ := Yb z
 refine a0i ent16 Y Y Y Y gv (a3a _ _ _ _ ji gv.sat (SlR.nil _ _) kp) ?_
 rintro _ o1 _ lu k gw ⟨o3, o4, o5, xss31, rfl, rfl, j3⟩
 refine a0v (gw.Ys (g.trans k) [2, 3, 4, 5, 6, 7, 8, 9] Y Y) (a0z 3 Y (by kernel_rfl) ?_)
 obtain ⟨ls, p, gm, hsx6⟩ := a1g gw (i := 0) Y j3
 obtain ⟨v29, il, z⟩ := Yb z
 refine a0i ent15 Y Y Y Y gm (a1v _ _ _ _ il gm.sat hsx6) ?_
 rintro _ lt _ kq s gd ⟨g5, g6, g7, rfl, rfl, hf⟩
 refine a0v (gd.Ys (((g.trans k).trans p).trans s) [1, 2, 3, 4, 5, 6, 7, 8] Y Y) (a0z 4 Y (by kernel_rfl) ?_)
 obtain ⟨v30, hj, z⟩ := Yb z
 refine a0i ent17 Y Y Y Y gd (a3e _ _ _ hj gd.sat) ?_
 rintro _ gx _ jj m gg ⟨g0, g1, g2, rfl, rfl, gy⟩
 refine a0v (gg.sh ((((g.trans k).trans p).trans s).trans m) [1, 2, 3, 4, 5, 6, 7, 8] (by decide) Y) (a0z 6 Y (by kernel_rfl) (a1f (e := 24) (cs := [.int .i64 v29.Op, .int .i64 v29.N, vs v29.Name, .slice g5 g6 g7, .int .i64 v30.Op, .int .i64 v30.N, vs v30.Name, .slice g0 g1 g2, .int .i64 v9.Op, .int .i64 v9.N, vs v9.Name, .slice R T U]) (q := 4) Y Y gg Y (fun _ => by kernel_rfl) Y Y ?_))
 intro b17 j6 g9
 refine a0v (g9.sh ((((g.trans k).trans p).trans s).trans m) [2, 3, 4, 5, 6, 7, 8, 9] (by decide) Y) (a0z 7 Y (by kernel_rfl) ?_)
 obtain ⟨j4, L, ga, hsx7⟩ := a1g g9 (i := 0) Y ((show RowN rp_Expr gx 3 [.int .i64 v29.Op, .int .i64 v29.N, vs v29.Name, .slice g5 g6 g7, .int .i64 v30.Op, .int .i64 v30.N, vs v30.Name, .slice g0 g1 g2, .int .i64 v9.Op, .int .i64 v9.N, vs v9.Name, .slice R T U] [v29, v30, v9] from ⟨Y, ⟨_, _, Y, (expr_iff.2 ⟨g5, g6, g7, Y, (hf.mono m)⟩), ⟨_, _, Y, (expr_iff.2 ⟨g0, g1, g2, Y, gy⟩), ⟨_, _, Y, (expr_iff.2 ⟨R, T, U, Y, (((((ik.mono g).mono k).mono p).mono s).mono m)⟩), (Y : RowR rp_Expr _ [] [])⟩⟩⟩⟩))
 obtain ⟨v31, gn, z⟩ := Yb z
 refine a0i ent15 Y Y Y Y ga (a1v _ _ _ _ gn ga.sat hsx7) ?_
 rintro _ j5 _ j7 M gb ⟨go, gp, gq, rfl, rfl, gr⟩
 refine a0v (gb.sh ((((((g.trans k).trans p).trans s).trans m).trans L).trans M) [1, 2, 3, 4, 5, 6, 7, 8] (by decide) Y) (a0z 9 Y (by kernel_rfl) (a0o sz24 Y gb Y Y Y Y (i := 0) Y Y Y Y ?_))
 intro j8 gc
 refine a0v (gc.sh ((((((g.trans k).trans p).trans s).trans m).trans L).trans M) [1, 2, 3, 4, 5, 6, 7, 8] (by decide) Y) (a2u (by kernel_rfl) (a0k (fun a ha => ?_)))
 cases z
 exact ⟨_, b16, go, gp, gq, ((((((g.trans k).trans p).trans s).trans m).trans L).trans M), gc.Yp [0, 1, 2, 3, 4, 5, 6, 7, 8] Y Y, gr, ha.cut (l := [3, 5, 8, 9, 11, 12, 14]) Y⟩
 clear hm
 refine a2f (SH jb [.box b6 37 [.int .i64 f1, .slice i3 i4 i5, .int .i64 f3, .slice i6 i7 i8], .box b5 24 [.int .i64 2, .int .i64 0, vs [], .slice none 0 0], .box b4 24 [.int .i64 4, .int .i64 0, vs [112, 97, 112, 101, 114], .slice none 0 0], .box b2 37 [.int .i64 v2.1.P.Sign, .slice hx hy hz, .int .i64 v2.1.Q.Sign, .slice i0 i1 i2], .box b1 37 [.int .i64 v1.1.P.Sign, .slice h8 h9 hb, .int .i64 v1.1.Q.Sign, .slice hc hd he]]) 9 Y (by kernel_rfl) p1 ?_
 intro vg jk
 refine d_tk 0 Y (by kernel_rfl) Y Y Y Y (jk.Ys Yf [0, 1, 2, 3, 4] Y Y) (fun _ _ _ _ hq => a0q ag24 sz24 Y Y hq Y (i := 2) Y Y Yn) (d_tk 2 Y (by kernel_rfl) Y Y Y Y (jk.Ys Yf [0, 1, 2, 3, 4] Y Y) (fun _ _ _ _ hq => a0q ag24 sz24 Y Y hq Y (i := 1) Y Y Yn) (b0p 1 7 Y Y (by kernel_rfl) ?_ ?_))
 obtain ⟨v32, lv, H⟩ := Yb H
 refine a0i ent17 Y Y Y Y jk (a3e _ _ _ lv jk.sat) ?_
 rintro _ qp _ qq y ig ⟨qr, qs, qt, rfl, rfl, kr⟩
 refine a0v (ig.Ys y [0, 1, 2, 3, 4] Y Y) (b0p 3 7 Y Y (by kernel_rfl) ?_ ?_)
 obtain ⟨v33, jl, H⟩ := Yb H
 refine a0i ent16 Y Y Y Y ig (a3a _ _ _ _ jl ig.sat kr (SlR.nil _ _)) ?_
 rintro _ o6 _ o7 G gz ⟨o8, o9, oa, xss36, rfl, rfl, j9⟩
 refine a0v (gz.Ys (y.trans G) [1, 2, 3, 4, 5] Y Y) (b0p 4 7 Y Y (by kernel_rfl) ?_ ?_)
 obtain ⟨lw, I, h0, hsx8⟩ := a1g gz (i := 0) Y j9
 obtain ⟨v34, im, H⟩ := Yb H
 refine a0i ent15 Y Y Y Y h0 (a1v _ _ _ _ im h0.sat hsx8) ?_
 rintro _ lx _ ly J gs ⟨lz, m0, m1, rfl, rfl, ih⟩
 refine a0v (gs.Ys (((y.trans G).trans I).trans J) [0, 1, 2, 3, 4] Y Y) (b0p 5 7 Y Y (by kernel_rfl) ?_ ?_)
 obtain ⟨v35, hk, H⟩ := Yb H
 refine a0i ent16 Y Y Y Y gs (a3a _ _ _ _ hk gs.sat (SlR.nil _ _) ih) ?_
 rintro _ ks _ kt K ge ⟨ku, kv, kw, xss38, rfl, rfl, hg⟩
 refine a0v (ge.sh ((((y.trans G).trans I).trans J).trans K) [1, 2, 3, 4, 5] (by decide) Y) (b0p 6 7 Y Y (by kernel_rfl) ?_ ?_)
 obtain ⟨jm, g3, gh, hsx9⟩ := a1g ge (i := 0) Y hg
 obtain ⟨v36, h1, H⟩ := Yb H
 refine a0i ent15 Y Y Y Y gh (a1v _ _ _ _ h1 gh.sat hsx9) ?_
 rintro _ jn _ jo g4 gi ⟨h2, h3, h4, rfl, rfl, h5⟩
 refine a0v (gi.sh ((((((y.trans G).trans I).trans J).trans K).trans g3).trans g4) [0, 1, 2, 3, 4] (by decide) Y) (a0z 7 Y (by kernel_rfl) (a1h ze24 Y Y Y gi ?_))
 intro b18 jp gj
 refine a0v (gj.sh ((((((y.trans G).trans I).trans J).trans K).trans g3).trans g4) [1, 2, 3, 4, 5] (by decide) Y) (a0z 8 Y (by kernel_rfl) (a0o sz24 Y gj Y Y Y Y (i := 0) Y Y Y Y ?_))
 intro jq gk
 refine a0v (gk.sh ((((((y.trans G).trans I).trans J).trans K).trans g3).trans g4) [1, 2, 3, 4, 5] (by decide) Y) (a2u (by kernel_rfl) (a0k (fun a ha => ?_)))
 cases H
 exact ⟨_, b18, h2, h3, h4, ((((((y.trans G).trans I).trans J).trans K).trans g3).trans g4), gk.Yp [0, 1, 2, 3, 4, 5] Y Y, h5, ha.cut (l := [3, 5, 7, 8, 9, 10]) Y⟩
 refine a1h ze24 Y Y Y ge ?_
 intro b18 jo gh
 refine a0v (gh.sh ((((y.trans G).trans I).trans J).trans K) [2, 3, 4, 5, 6] (by decide) Y) (a0z 6 Y (by kernel_rfl) ?_)
 obtain ⟨jm, g3, gi, hsx9⟩ := a1g gh (i := 1) Y hg
 obtain ⟨v36, h1, H⟩ := Yb H
 refine a0i ent15 Y Y Y Y gi (a1v _ _ _ _ h1 gi.sat hsx9) ?_
 rintro _ jn _ jp g4 gj ⟨h2, h3, h4, rfl, rfl, h5⟩
 refine a0v (gj.sh ((((((y.trans G).trans I).trans J).trans K).trans g3).trans g4) [1, 2, 3, 4, 5] (by decide) Y) (a0z 8 Y (by kernel_rfl) (a0o sz24 Y gj Y Y Y Y (i := 0) Y Y Y Y ?_))
 intro jq gk
 refine a0v (gk.sh ((((((y.trans G).trans I).trans J).trans K).trans g3).trans g4) [1, 2, 3, 4, 5] (by decide) Y) (a2u (by kernel_rfl) (a0k (fun a ha => ?_)))
 cases H
 exact ⟨_, b18, h2, h3, h4, ((((((y.trans G).trans I).trans J).trans K).trans g3).trans g4), gk.Yp [0, 1, 2, 3, 4, 5] Y Y, h5, ha.cut (l := [3, 5, 7, 8, 9, 10]) Y⟩
 refine a1h ze24 Y Y Y gs ?_
 intro b18 kt ge
 refine a0v (ge.Ys (((y.trans G).trans I).trans J) [1, 2, 3, 4, 5] Y Y) (a0z 5 Y (by kernel_rfl) ?_)
 obtain ⟨v35, hk, H⟩ := Yb H
 refine a0i ent16 Y Y Y Y ge (a3a _ _ _ _ hk ge.sat (SlR.nil _ _) ih) ?_
 rintro _ ks _ jo K gh ⟨ku, kv, kw, xss38, rfl, rfl, hg⟩
 refine a0v (gh.sh ((((y.trans G).trans I).trans J).trans K) [2, 3, 4, 5, 6] (by decide) Y) (a0z 6 Y (by kernel_rfl) ?_)
 obtain ⟨jm, g3, gi, hsx9⟩ := a1g gh (i := 0) Y hg
 obtain ⟨v36, h1, H⟩ := Yb H
 refine a0i ent15 Y Y Y Y gi (a1v _ _ _ _ h1 gi.sat hsx9) ?_
 rintro _ jn _ jp g4 gj ⟨h2, h3, h4, rfl, rfl, h5⟩
 refine a0v (gj.sh ((((((y.trans G).trans I).trans J).trans K).trans g3).trans g4) [1, 2, 3, 4, 5] (by decide) Y) (a0z 8 Y (by kernel_rfl) (a0o sz24 Y gj Y Y Y Y (i := 0) Y Y Y Y ?_))
 intro jq gk
 refine a0v (gk.sh ((((((y.trans G).trans I).trans J).trans K).trans g3).trans g4) [1, 2, 3, 4, 5] (by decide) Y) (a2u (by kernel_rfl) (a0k (fun a ha => ?_)))
 cases H
 exact ⟨_, b18, h2, h3, h4, ((((((y.trans G).trans I).trans J).trans K).trans g3).trans g4), gk.Yp [0, 1, 2, 3, 4, 5] Y Y, h5, ha.cut (l := [3, 5, 7, 8, 9, 10]) Y⟩
 refine a1h ze24 Y Y Y gz ?_
 intro b18 ly h0
 refine a0v (h0.Ys (y.trans G) [2, 3, 4, 5, 6] Y Y) (a0z 4 Y (by kernel_rfl) ?_)
 obtain ⟨lw, I, gs, hsx8⟩ := a1g h0 (i := 1) Y j9
 obtain ⟨v34, im, H⟩ := Yb H
 refine a0i ent15 Y Y Y Y gs (a1v _ _ _ _ im gs.sat hsx8) ?_
 rintro _ lx _ kt J ge ⟨lz, m0, m1, rfl, rfl, ih⟩
 refine a0v (ge.Ys (((y.trans G).trans I).trans J) [1, 2, 3, 4, 5] Y Y) (a0z 5 Y (by kernel_rfl) ?_)
 obtain ⟨v35, hk, H⟩ := Yb H
 refine a0i ent16 Y Y Y Y ge (a3a _ _ _ _ hk ge.sat (SlR.nil _ _) ih) ?_
 rintro _ ks _ jo K gh ⟨ku, kv, kw, xss38, rfl, rfl, hg⟩
 refine a0v (gh.sh ((((y.trans G).trans I).trans J).trans K) [2, 3, 4, 5, 6] (by decide) Y) (a0z 6 Y (by kernel_rfl) ?_)
 obtain ⟨jm, g3, gi, hsx9⟩ := a1g gh (i := 0) Y hg
 obtain ⟨v36, h1, H⟩ := Yb H
 refine a0i ent15 Y Y Y Y gi (a1v _ _ _ _ h1 gi.sat hsx9) ?_
 rintro _ jn _ jp g4 gj ⟨h2, h3, h4, rfl, rfl, h5⟩
 refine a0v (gj.sh ((((((y.trans G).trans I).trans J).trans K).trans g3).trans g4) [1, 2, 3, 4, 5] (by decide) Y) (a0z 8 Y (by kernel_rfl) (a0o sz24 Y gj Y Y Y Y (i := 0) Y Y Y Y ?_))
 intro jq gk
 refine a0v (gk.sh ((((((y.trans G).trans I).trans J).trans K).trans g3).trans g4) [1, 2, 3, 4, 5] (by decide) Y) (a2u (by kernel_rfl) (a0k (fun a ha => ?_)))
 cases H
 exact ⟨_, b18, h2, h3, h4, ((((((y.trans G).trans I).trans J).trans K).trans g3).trans g4), gk.Yp [0, 1, 2, 3, 4, 5] Y Y, h5, ha.cut (l := [3, 5, 7, 8, 9, 10]) Y⟩
 refine a1h ze24 Y Y Y ig ?_
 intro b18 o7 gz
 refine a0v (gz.Ys y [1, 2, 3, 4, 5] Y Y) (a0z 3 Y (by kernel_rfl) ?_)
 obtain ⟨v33, jl, H⟩ := Yb H
 refine a0i ent16 Y Y Y Y gz (a3a _ _ _ _ jl gz.sat kr (SlR.nil _ _)) ?_
 rintro _ o6 _ ly G h0 ⟨o8, o9, oa, xss36, rfl, rfl, j9⟩
 refine a0v (h0.Ys (y.trans G) [2, 3, 4, 5, 6] Y Y) (a0z 4 Y (by kernel_rfl) ?_)
 obtain ⟨lw, I, gs, hsx8⟩ := a1g h0 (i := 0) Y j9
 obtain ⟨v34, im, H⟩ := Yb H
 refine a0i ent15 Y Y Y Y gs (a1v _ _ _ _ im gs.sat hsx8) ?_
 rintro _ lx _ kt J ge ⟨lz, m0, m1, rfl, rfl, ih⟩
 refine a0v (ge.Ys (((y.trans G).trans I).trans J) [1, 2, 3, 4, 5] Y Y) (a0z 5 Y (by kernel_rfl) ?_)
 obtain ⟨v35, hk, H⟩ := Yb H
 refine a0i ent16 Y Y Y Y ge (a3a _ _ _ _ hk ge.sat (SlR.nil _ _) ih) ?_
 rintro _ ks _ jo K gh ⟨ku, kv, kw, xss38, rfl, rfl, hg⟩
 refine a0v (gh.sh ((((y.trans G).trans I).trans J).trans K) [2, 3, 4, 5, 6] (by decide) Y) (a0z 6 Y (by kernel_rfl) ?_)
 obtain ⟨jm, g3, gi, hsx9⟩ := a1g gh (i := 0) Y hg
 obtain ⟨v36, h1, H⟩ := Yb H
 refine a0i ent15 Y Y Y Y gi (a1v _ _ _ _ h1 gi.sat hsx9) ?_
 rintro _ jn _ jp g4 gj ⟨h2, h3, h4, rfl, rfl, h5⟩
 refine a0v (gj.sh ((((((y.trans G).trans I).trans J).trans K).trans g3).trans g4) [1, 2, 3, 4, 5] (by decide) Y) (a0z 8 Y (by kernel_rfl) (a0o sz24 Y gj Y Y Y Y (i := 0) Y Y Y Y ?_))
 intro jq gk
 refine a0v (gk.sh ((((((y.trans G).trans I).trans J).trans K).trans g3).trans g4) [1, 2, 3, 4, 5] (by decide) Y) (a2u (by kernel_rfl) (a0k (fun a ha => ?_)))
 cases H
 exact ⟨_, b18, h2, h3, h4, ((((((y.trans G).trans I).trans J).trans K).trans g3).trans g4), gk.Yp [0, 1, 2, 3, 4, 5] Y Y, h5, ha.cut (l := [3, 5, 7, 8, 9, 10]) Y⟩
 refine a1h ze24 Y Y Y jk ?_
 intro b18 qq ig
 refine a0v (ig.Ys Yf [1, 2, 3, 4, 5] Y Y) (a0z 1 Y (by kernel_rfl) ?_)
 obtain ⟨v32, lv, H⟩ := Yb H
 refine a0i ent17 Y Y Y Y ig (a3e _ _ _ lv ig.sat) ?_
 rintro _ qp _ o7 y gz ⟨qr, qs, qt, rfl, rfl, kr⟩
 refine a0v (gz.Ys y [1, 2, 3, 4, 5] Y Y) (a0z 3 Y (by kernel_rfl) ?_)
 obtain ⟨v33, jl, H⟩ := Yb H
 refine a0i ent16 Y Y Y Y gz (a3a _ _ _ _ jl gz.sat kr (SlR.nil _ _)) ?_
 rintro _ o6 _ ly G h0 ⟨o8, o9, oa, xss36, rfl, rfl, j9⟩
 refine a0v (h0.Ys (y.trans G) [2, 3, 4, 5, 6] Y Y) (a0z 4 Y (by kernel_rfl) ?_)
 obtain ⟨lw, I, gs, hsx8⟩ := a1g h0 (i := 0) Y j9
 obtain ⟨v34, im, H⟩ := Yb H
 refine a0i ent15 Y Y Y Y gs (a1v _ _ _ _ im gs.sat hsx8) ?_
 rintro _ lx _ kt J ge ⟨lz, m0, m1, rfl, rfl, ih⟩
 refine a0v (ge.Ys (((y.trans G).trans I).trans J) [1, 2, 3, 4, 5] Y Y) (a0z 5 Y (by kernel_rfl) ?_)
 obtain ⟨v35, hk, H⟩ := Yb H
 refine a0i ent16 Y Y Y Y ge (a3a _ _ _ _ hk ge.sat (SlR.nil _ _) ih) ?_
 rintro _ ks _ jo K gh ⟨ku, kv, kw, xss38, rfl, rfl, hg⟩
 refine a0v (gh.sh ((((y.trans G).trans I).trans J).trans K) [2, 3, 4, 5, 6] (by decide) Y) (a0z 6 Y (by kernel_rfl) ?_)
 obtain ⟨jm, g3, gi, hsx9⟩ := a1g gh (i := 0) Y hg
 obtain ⟨v36, h1, H⟩ := Yb H
 refine a0i ent15 Y Y Y Y gi (a1v _ _ _ _ h1 gi.sat hsx9) ?_
 rintro _ jn _ jp g4 gj ⟨h2, h3, h4, rfl, rfl, h5⟩
 refine a0v (gj.sh ((((((y.trans G).trans I).trans J).trans K).trans g3).trans g4) [1, 2, 3, 4, 5] (by decide) Y) (a0z 8 Y (by kernel_rfl) (a0o sz24 Y gj Y Y Y Y (i := 0) Y Y Y Y ?_))
 intro jq gk
 refine a0v (gk.sh ((((((y.trans G).trans I).trans J).trans K).trans g3).trans g4) [1, 2, 3, 4, 5] (by decide) Y) (a2u (by kernel_rfl) (a0k (fun a ha => ?_)))
 cases H
 exact ⟨_, b18, h2, h3, h4, ((((((y.trans G).trans I).trans J).trans K).trans g3).trans g4), gk.Yp [0, 1, 2, 3, 4, 5] Y Y, h5, ha.cut (l := [3, 5, 7, 8, 9, 10]) Y⟩
 clear hm
 refine a2f (SH ok [.box b5 24 [.int .i64 2, .int .i64 0, vs [], .slice none 0 0], .box b4 24 [.int .i64 4, .int .i64 0, vs [112, 97, 112, 101, 114], .slice none 0 0], .box b2 37 [.int .i64 v2.1.P.Sign, .slice hx hy hz, .int .i64 v2.1.Q.Sign, .slice i0 i1 i2], .box b1 37 [.int .i64 v1.1.P.Sign, .slice h8 h9 hb, .int .i64 v1.1.Q.Sign, .slice hc hd he]]) 12 Y (by kernel_rfl) p0 ?_
 intro vh jr
 refine d_tk 0 Y (by kernel_rfl) Y Y Y Y (jr.Ys Yf [0, 1, 2, 3] Y Y) (fun _ _ _ _ hq => a0q ag24 sz24 Y Y hq Y (i := 1) Y Y Yn) (d_tk 4 Y (by kernel_rfl) Y Y Y Y (jr.Ys Yf [0, 1, 2, 3] Y Y) (fun _ _ _ _ _ => a0d Y Y Y Yn) (b0p 1 9 Y Y (by kernel_rfl) ?_ ?_))
 obtain ⟨v37, m2, Z⟩ := Yb Z
 refine a0i ent17 Y Y Y Y jr (a3e _ _ _ m2 jr.sat) ?_
 rintro _ qu _ qv j ii ⟨qw, qx, qy, rfl, rfl, kx⟩
 refine a0v (ii.Ys j [0, 1, 2, 3] Y Y) (b0p 2 9 Y Y (by kernel_rfl) ?_ ?_)
 obtain ⟨v38, js, Z⟩ := Yb Z
 refine a0i ent16 Y Y Y Y ii (a3a _ _ _ _ js ii.sat (SlR.nil _ _) kx) ?_
 rintro _ ob _ oc o h6 ⟨od, oe, of, xss41, rfl, rfl, ja⟩
 refine a0v (h6.Ys (j.trans o) [1, 2, 3, 4] Y Y) (b0p 3 9 Y Y (by kernel_rfl) ?_ ?_)
 obtain ⟨m3, t, h7, hsx10⟩ := a1g h6 (i := 0) Y ja
 obtain ⟨v39, io, Z⟩ := Yb Z
 refine a0i ent15 Y Y Y Y h7 (a1v _ _ _ _ io h7.sat hsx10) ?_
 rintro _ m4 _ m5 u gt ⟨m6, m7, m8, rfl, rfl, ij⟩
 refine a0v (gt.Ys (((j.trans o).trans t).trans u) [0, 1, 2, 3] Y Y) (b0p 5 9 Y Y (by kernel_rfl) ?_ ?_)
 have iu := ((j.trans o).trans t).trans u
 obtain ⟨v40, hl, Z⟩ := Yb Z
 refine a0i ent14 Y Y Y Y gt (a5d _ _ _ _ hl gt.sat ij (hsx1.mono iu)) ?_
 rintro _ ky _ kz x g8 ⟨hn, ho, hp, hr, ht, hu, rfl, rfl, hv, hw⟩
 refine a0v (g8.sh ((((j.trans o).trans t).trans u).trans x) [0, 1, 2, 3] (by decide) Y) (d_tk 6 Y (by kernel_rfl) Y Y Y Y (g8.sh ((((j.trans o).trans t).trans u).trans x) [0, 1, 2, 3] (by decide) Y) (fun _ _ _ _ _ => a0d Y Y Y Yn) (d_tk 7 Y (by kernel_rfl) Y Y Y Y (g8.sh ((((j.trans o).trans t).trans u).trans x) [0, 1, 2, 3] (by decide) Y) (fun _ _ _ _ _ => a0l Y Y Y Y Yn) (d_tk 8 Y (by kernel_rfl) Y Y Y Y (g8.sh ((((j.trans o).trans t).trans u).trans x) [0, 1, 2, 3] (by decide) Y) (fun _ _ _ _ _ => a0l Y Y Y Y Yn) (a0z 9 Y (by kernel_rfl) (a1h ze37 Y Y Y g8 ?_)))))
 intro b19 l0 V
 refine a0v (V.sh ((((j.trans o).trans t).trans u).trans x) [1, 2, 3, 4] (by decide) Y) (a0z 10 Y (by kernel_rfl) (a0o sz37 Y V Y Y Y Y (i := 0) Y Y Y Y ?_))
 intro l1 gf
 refine a0v (gf.sh ((((j.trans o).trans t).trans u).trans x) [1, 2, 3, 4] (by decide) Y) (d_tk 11 Y (by kernel_rfl) Y Y Y Y (gf.sh ((((j.trans o).trans t).trans u).trans x) [1, 2, 3, 4] (by decide) Y) (fun _ _ _ _ _ => a0b Y Y Y Yn) (a2u (by kernel_rfl) (a0k (fun a ha => ?_))))
 cases Z
 exact ⟨_, b19, hn, ho, hp, hr, ht, hu, ((((j.trans o).trans t).trans u).trans x), gf.Yp [0, 1, 2, 3, 4] Y Y, hv, hw, ha.cut (l := [3, 5, 6, 7, 8, 9]) Y⟩
 refine a1h ze37 Y Y Y gt ?_
 intro b19 kz g8
 refine a0v (g8.Ys (((j.trans o).trans t).trans u) [1, 2, 3, 4] Y Y) (a0z 5 Y (by kernel_rfl) ?_)
 have iu := ((j.trans o).trans t).trans u
 obtain ⟨v40, hl, Z⟩ := Yb Z
 refine a0i ent14 Y Y Y Y g8 (a5d _ _ _ _ hl g8.sat ij (hsx1.mono iu)) ?_
 rintro _ ky _ l0 x V ⟨hn, ho, hp, hr, ht, hu, rfl, rfl, hv, hw⟩
 refine a0v (V.sh ((((j.trans o).trans t).trans u).trans x) [1, 2, 3, 4] (by decide) Y) (d_tk 6 Y (by kernel_rfl) Y Y Y Y (V.sh ((((j.trans o).trans t).trans u).trans x) [1, 2, 3, 4] (by decide) Y) (fun _ _ _ _ _ => a0d Y Y Y Yn) (d_tk 7 Y (by kernel_rfl) Y Y Y Y (V.sh ((((j.trans o).trans t).trans u).trans x) [1, 2, 3, 4] (by decide) Y) (fun _ _ _ _ _ => a0l Y Y Y Y Yn) (d_tk 8 Y (by kernel_rfl) Y Y Y Y (V.sh ((((j.trans o).trans t).trans u).trans x) [1, 2, 3, 4] (by decide) Y) (fun _ _ _ _ _ => a0l Y Y Y Y Yn) (a0z 10 Y (by kernel_rfl) (a0o sz37 Y V Y Y Y Y (i := 0) Y Y Y Y ?_)))))
 intro l1 gf
 refine a0v (gf.sh ((((j.trans o).trans t).trans u).trans x) [1, 2, 3, 4] (by decide) Y) (d_tk 11 Y (by kernel_rfl) Y Y Y Y (gf.sh ((((j.trans o).trans t).trans u).trans x) [1, 2, 3, 4] (by decide) Y) (fun _ _ _ _ _ => a0b Y Y Y Yn) (a2u (by kernel_rfl) (a0k (fun a ha => ?_))))
 cases Z
 exact ⟨_, b19, hn, ho, hp, hr, ht, hu, ((((j.trans o).trans t).trans u).trans x), gf.Yp [0, 1, 2, 3, 4] Y Y, hv, hw, ha.cut (l := [3, 5, 6, 7, 8, 9]) Y⟩
 refine a1h ze37 Y Y Y h6 ?_
 intro b19 m5 h7
 refine a0v (h7.Ys (j.trans o) [2, 3, 4, 5] Y Y) (a0z 3 Y (by kernel_rfl) ?_)
 obtain ⟨m3, t, gt, hsx10⟩ := a1g h7 (i := 1) Y ja
 obtain ⟨v39, io, Z⟩ := Yb Z
 refine a0i ent15 Y Y Y Y gt (a1v _ _ _ _ io gt.sat hsx10) ?_
 rintro _ m4 _ kz u g8 ⟨m6, m7, m8, rfl, rfl, ij⟩
 refine a0v (g8.Ys (((j.trans o).trans t).trans u) [1, 2, 3, 4] Y Y) (a0z 5 Y (by kernel_rfl) ?_)
 have iu := ((j.trans o).trans t).trans u
 obtain ⟨v40, hl, Z⟩ := Yb Z
 refine a0i ent14 Y Y Y Y g8 (a5d _ _ _ _ hl g8.sat ij (hsx1.mono iu)) ?_
 rintro _ ky _ l0 x V ⟨hn, ho, hp, hr, ht, hu, rfl, rfl, hv, hw⟩
 refine a0v (V.sh ((((j.trans o).trans t).trans u).trans x) [1, 2, 3, 4] (by decide) Y) (d_tk 6 Y (by kernel_rfl) Y Y Y Y (V.sh ((((j.trans o).trans t).trans u).trans x) [1, 2, 3, 4] (by decide) Y) (fun _ _ _ _ _ => a0d Y Y Y Yn) (d_tk 7 Y (by kernel_rfl) Y Y Y Y (V.sh ((((j.trans o).trans t).trans u).trans x) [1, 2, 3, 4] (by decide) Y) (fun _ _ _ _ _ => a0l Y Y Y Y Yn) (d_tk 8 Y (by kernel_rfl) Y Y Y Y (V.sh ((((j.trans o).trans t).trans u).trans x) [1, 2, 3, 4] (by decide) Y) (fun _ _ _ _ _ => a0l Y Y Y Y Yn) (a0z 10 Y (by kernel_rfl) (a0o sz37 Y V Y Y Y Y (i := 0) Y Y Y Y ?_)))))
 intro l1 gf
 refine a0v (gf.sh ((((j.trans o).trans t).trans u).trans x) [1, 2, 3, 4] (by decide) Y) (d_tk 11 Y (by kernel_rfl) Y Y Y Y (gf.sh ((((j.trans o).trans t).trans u).trans x) [1, 2, 3, 4] (by decide) Y) (fun _ _ _ _ _ => a0b Y Y Y Yn) (a2u (by kernel_rfl) (a0k (fun a ha => ?_))))
 cases Z
 exact ⟨_, b19, hn, ho, hp, hr, ht, hu, ((((j.trans o).trans t).trans u).trans x), gf.Yp [0, 1, 2, 3, 4] Y Y, hv, hw, ha.cut (l := [3, 5, 6, 7, 8, 9]) Y⟩
 refine a1h ze37 Y Y Y ii ?_
 intro b19 oc h6
 refine a0v (h6.Ys j [1, 2, 3, 4] Y Y) (a0z 2 Y (by kernel_rfl) ?_)
 obtain ⟨v38, js, Z⟩ := Yb Z
 refine a0i ent16 Y Y Y Y h6 (a3a _ _ _ _ js h6.sat (SlR.nil _ _) kx) ?_
 rintro _ ob _ m5 o h7 ⟨od, oe, of, xss41, rfl, rfl, ja⟩
 refine a0v (h7.Ys (j.trans o) [2, 3, 4, 5] Y Y) (a0z 3 Y (by kernel_rfl) ?_)
 obtain ⟨m3, t, gt, hsx10⟩ := a1g h7 (i := 0) Y ja
 obtain ⟨v39, io, Z⟩ := Yb Z
 refine a0i ent15 Y Y Y Y gt (a1v _ _ _ _ io gt.sat hsx10) ?_
 rintro _ m4 _ kz u g8 ⟨m6, m7, m8, rfl, rfl, ij⟩
 refine a0v (g8.Ys (((j.trans o).trans t).trans u) [1, 2, 3, 4] Y Y) (a0z 5 Y (by kernel_rfl) ?_)
 have iu := ((j.trans o).trans t).trans u
 obtain ⟨v40, hl, Z⟩ := Yb Z
 refine a0i ent14 Y Y Y Y g8 (a5d _ _ _ _ hl g8.sat ij (hsx1.mono iu)) ?_
 rintro _ ky _ l0 x V ⟨hn, ho, hp, hr, ht, hu, rfl, rfl, hv, hw⟩
 refine a0v (V.sh ((((j.trans o).trans t).trans u).trans x) [1, 2, 3, 4] (by decide) Y) (d_tk 6 Y (by kernel_rfl) Y Y Y Y (V.sh ((((j.trans o).trans t).trans u).trans x) [1, 2, 3, 4] (by decide) Y) (fun _ _ _ _ _ => a0d Y Y Y Yn) (d_tk 7 Y (by kernel_rfl) Y Y Y Y (V.sh ((((j.trans o).trans t).trans u).trans x) [1, 2, 3, 4] (by decide) Y) (fun _ _ _ _ _ => a0l Y Y Y Y Yn) (d_tk 8 Y (by kernel_rfl) Y Y Y Y (V.sh ((((j.trans o).trans t).trans u).trans x) [1, 2, 3, 4] (by decide) Y) (fun _ _ _ _ _ => a0l Y Y Y Y Yn) (a0z 10 Y (by kernel_rfl) (a0o sz37 Y V Y Y Y Y (i := 0) Y Y Y Y ?_)))))
 intro l1 gf
 refine a0v (gf.sh ((((j.trans o).trans t).trans u).trans x) [1, 2, 3, 4] (by decide) Y) (d_tk 11 Y (by kernel_rfl) Y Y Y Y (gf.sh ((((j.trans o).trans t).trans u).trans x) [1, 2, 3, 4] (by decide) Y) (fun _ _ _ _ _ => a0b Y Y Y Yn) (a2u (by kernel_rfl) (a0k (fun a ha => ?_))))
 cases Z
 exact ⟨_, b19, hn, ho, hp, hr, ht, hu, ((((j.trans o).trans t).trans u).trans x), gf.Yp [0, 1, 2, 3, 4] Y Y, hv, hw, ha.cut (l := [3, 5, 6, 7, 8, 9]) Y⟩
 refine a1h ze37 Y Y Y jr ?_
 intro b19 qv ii
 refine a0v (ii.Ys Yf [1, 2, 3, 4] Y Y) (a0z 1 Y (by kernel_rfl) ?_)
 obtain ⟨v37, m2, Z⟩ := Yb Z
 refine a0i ent17 Y Y Y Y ii (a3e _ _ _ m2 ii.sat) ?_
 rintro _ qu _ oc j h6 ⟨qw, qx, qy, rfl, rfl, kx⟩
 refine a0v (h6.Ys j [1, 2, 3, 4] Y Y) (a0z 2 Y (by kernel_rfl) ?_)
 obtain ⟨v38, js, Z⟩ := Yb Z
 refine a0i ent16 Y Y Y Y h6 (a3a _ _ _ _ js h6.sat (SlR.nil _ _) kx) ?_
 rintro _ ob _ m5 o h7 ⟨od, oe, of, xss41, rfl, rfl, ja⟩
 refine a0v (h7.Ys (j.trans o) [2, 3, 4, 5] Y Y) (a0z 3 Y (by kernel_rfl) ?_)
 obtain ⟨m3, t, gt, hsx10⟩ := a1g h7 (i := 0) Y ja
 obtain ⟨v39, io, Z⟩ := Yb Z
 refine a0i ent15 Y Y Y Y gt (a1v _ _ _ _ io gt.sat hsx10) ?_
 rintro _ m4 _ kz u g8 ⟨m6, m7, m8, rfl, rfl, ij⟩
 refine a0v (g8.Ys (((j.trans o).trans t).trans u) [1, 2, 3, 4] Y Y) (a0z 5 Y (by kernel_rfl) ?_)
 have iu := ((j.trans o).trans t).trans u
 obtain ⟨v40, hl, Z⟩ := Yb Z
 refine a0i ent14 Y Y Y Y g8 (a5d _ _ _ _ hl g8.sat ij (hsx1.mono iu)) ?_
 rintro _ ky _ l0 x V ⟨hn, ho, hp, hr, ht, hu, rfl, rfl, hv, hw⟩
 refine a0v (V.sh ((((j.trans o).trans t).trans u).trans x) [1, 2, 3, 4] (by decide) Y) (d_tk 6 Y (by kernel_rfl) Y Y Y Y (V.sh ((((j.trans o).trans t).trans u).trans x) [1, 2, 3, 4] (by decide) Y) (fun _ _ _ _ _ => a0d Y Y Y Yn) (d_tk 7 Y (by kernel_rfl) Y Y Y Y (V.sh ((((j.trans o).trans t).trans u).trans x) [1, 2, 3, 4] (by decide) Y) (fun _ _ _ _ _ => a0l Y Y Y Y Yn) (d_tk 8 Y (by kernel_rfl) Y Y Y Y (V.sh ((((j.trans o).trans t).trans u).trans x) [1, 2, 3, 4] (by decide) Y) (fun _ _ _ _ _ => a0l Y Y Y Y Yn) (a0z 10 Y (by kernel_rfl) (a0o sz37 Y V Y Y Y Y (i := 0) Y Y Y Y ?_)))))
 intro l1 gf
 refine a0v (gf.sh ((((j.trans o).trans t).trans u).trans x) [1, 2, 3, 4] (by decide) Y) (d_tk 11 Y (by kernel_rfl) Y Y Y Y (gf.sh ((((j.trans o).trans t).trans u).trans x) [1, 2, 3, 4] (by decide) Y) (fun _ _ _ _ _ => a0b Y Y Y Yn) (a2u (by kernel_rfl) (a0k (fun a ha => ?_))))
 cases Z
 exact ⟨_, b19, hn, ho, hp, hr, ht, hu, ((((j.trans o).trans t).trans u).trans x), gf.Yp [0, 1, 2, 3, 4] Y Y, hv, hw, ha.cut (l := [3, 5, 6, 7, 8, 9]) Y⟩
end Go.Proofs.YtknpjecpcmajiaaGreatDoor.M

namespace Go.Proofs.YtknpjecpcmajiaaGreatDoor.M
open Go Go.RowKit Rt
theorem ent7 : Ent Tryz.prog 7 := fun _ _ => by kernel_rfl
def a3w (n : Nat) (rec_law36_turned : Expr → Option Expr) (x1 : Expr) (kont1 : (List Expr) → Option Expr) : Nat → Int → (List Expr) → Option Expr
 | 0, _, _ => none
 | mx1 + 1, i1, l1 =>
  bif decide (i1 < (x1.Args.length : Int)) then
   (ix x1.Args i1).bind fun ex1 =>
   (rec_law36_turned ex1).bind fun v1 =>
   (bif x1.Op == 5 then
    some true
   else
    bif x1.Op == 7 then
     some true
    else
     bif x1.Op == 9 then
      some true
     else
      bif x1.Op == 10 then
       some true
      else
       bif x1.Op == 13 then
        some true
       else
        bif x1.Op == 15 then
         some true
        else
         some (x1.Op == 16)).bind fun v2 =>
   bif v2 then
    (app 56 [v1] l1).bind fun l3 =>
    a3w n rec_law36_turned x1 kont1 mx1 (iadd .i64 i1 1) l3
   else
    (app 56 l1 [v1]).bind fun l4 =>
    a3w n rec_law36_turned x1 kont1 mx1 (iadd .i64 i1 1) l4
  else
   kont1 l1
theorem a9y (n : Nat) (rec_law36_turned : Expr → Option Expr) (x1 : Expr) (kont1 : (List Expr) → Option Expr) (mx1 : Nat) (i1 : Int) (l1 : List Expr) : a3w n rec_law36_turned x1 kont1 (mx1 + 1) i1 l1 =
  bif decide (i1 < (x1.Args.length : Int)) then
   (ix x1.Args i1).bind fun ex1 =>
   (rec_law36_turned ex1).bind fun v1 =>
   (bif x1.Op == 5 then
    some true
   else
    bif x1.Op == 7 then
     some true
    else
     bif x1.Op == 9 then
      some true
     else
      bif x1.Op == 10 then
       some true
      else
       bif x1.Op == 13 then
        some true
       else
        bif x1.Op == 15 then
         some true
        else
         some (x1.Op == 16)).bind fun v2 =>
   bif v2 then
    (app 56 [v1] l1).bind fun l3 =>
    a3w n rec_law36_turned x1 kont1 mx1 (iadd .i64 i1 1) l3
   else
    (app 56 l1 [v1]).bind fun l4 =>
    a3w n rec_law36_turned x1 kont1 mx1 (iadd .i64 i1 1) l4
  else
   kont1 l1 := rfl
def law36_turned : Nat → Expr → Option Expr
 | 0, _ => none
 | n + 1, x1 =>
  a3w n (law36_turned n) x1 (fun (l2 : List Expr) =>
   some (⟨x1.Op, x1.N, x1.Name, l2⟩ : Expr)) n 0 ([] : List Expr)
theorem b5h (n : Nat) (x1 : Expr) : law36_turned (n + 1) x1 =
  a3w n (law36_turned n) x1 (fun (l2 : List Expr) =>
   some (⟨x1.Op, x1.N, x1.Name, l2⟩ : Expr)) n 0 ([] : List Expr) := rfl
theorem b8f (n : Nat) : (∀ (x1 : Expr) (r : Expr) (_ : law36_turned n x1 = some r) {w : World} {F : Frz} (_ : Sat F w) {H : Option Addr} {I : Nat} {z : Nat} (_ : SlR rp_Expr F H I z x1.Args), Calls Tryz.prog 7 #[.agg #[.int .i64 x1.Op, .int .i64 x1.N, vs x1.Name, .slice H I z]] w fun e w' => ∃ v F' O', e = .returned v ∧ HS F w [] F' O' w' ∧ (∃ (a0_3 : Option Addr) (n0_3 : Nat) (c0_3 : Nat), v = .agg #[.int .i64 r.Op, .int .i64 r.N, vs r.Name, .slice a0_3 n0_3 c0_3] ∧ O' = [] ∧ SlR rp_Expr F' a0_3 n0_3 c0_3 r.Args)) := by
 induction n with
 | zero =>
  intro x1 r hm
  exact absurd (show (none : Option Expr) = some r from hm) (by simp)
 | succ n ih =>
  intro x1 r hm w F hs H I z ga
  rw [b5h] at hm
  have h := HS.init hs
  refine a1a 44 Tryz.func7 Y Y Y (a0g (a0a (a2z Y Y Y Y h ?_)))
  intro b1 ho gt
  refine a1h ze24 Y Y Y gt ?_
  intro b2 hp gb
  refine a0e (a0c (a0g (a0a (a0q ag24 sz24 Y Y gb Y (i := 1) Y Y (a1h ze24 Y Y Y gb ?_)))))
  intro b3 hq gu
  refine a0o sz24 Y gu Y Y Y Y (i := 0) Y Y Y Y ?_
  intro hr gv
  refine a0e (a0c (a0g (a0a (a0f fa24_3 Y Y Y (a0o sz22 Y gv Y Y Y Y (i := 0) Y Y Y Y ?_)))))
  intro ht gw
  refine a0e (a0c (a0g (a0g (a0a (a0b Y Y Y (a0e (a0c (a1j ?_))))))))
  have gx := gw.nilRow 24 4
  intro a gg
  obtain ⟨kont1, hkont1⟩ : ∃ kont1 : (List Expr) → Option Expr, kont1 = (fun (l2 : List Expr) => some (⟨x1.Op, x1.N, x1.Name, l2⟩ : Expr)) := ⟨_, Y⟩
  replace hm : (fun m (s : Int × List Expr) => a3w n (law36_turned n) x1 kont1 m s.1 s.2) n (0, ([] : List Expr)) = some r := by rw [hkont1]; exact hm
  refine a5j (id := 0) (fun m (s : Int × List Expr) => a3w n (law36_turned n) x1 kont1 m s.1 s.2) (fun (y : List Expr) => kont1 y) r (fun (s : Int × List Expr) a w' => ∃ (J : Frz) (L : Option Addr) (o : Nat) (M : Nat) (xss2 : List Value), Frz.le F J ∧ HS F w [] J [.row 24 4 L o M xss2, .box b3 24 [.int .i64 x1.Op, .int .i64 x1.N, vs x1.Name, .slice L o M], .box b2 24 [.int .i64 0, .int .i64 0, vs [], .slice none 0 0], .box b1 24 [.int .i64 x1.Op, .int .i64 x1.N, vs x1.Name, .slice H I z]] w' ∧ (RowN rp_Expr J o xss2 s.2) ∧ Has 44 a [(1, .pointer (some ⟨b1, 0, none⟩)), (2, .pointer (some ⟨b2, 0, none⟩)), (3, .pointer (some ⟨b3, 0, none⟩)), (4, .int .i64 s.1)]) (fun (y : List Expr) a w' => ∃ (Q : Frz) (R : Option Addr) (G : Nat) (T : Nat) (xss3 : List Value), Frz.le F Q ∧ HS F w [] Q [.row 24 4 R G T xss3, .box b3 24 [.int .i64 x1.Op, .int .i64 x1.N, vs x1.Name, .slice R G T], .box b2 24 [.int .i64 0, .int .i64 0, vs [], .slice none 0 0]] w' ∧ (RowN rp_Expr Q G xss3 y) ∧ Has 44 a [(2, .pointer (some ⟨b2, 0, none⟩)), (3, .pointer (some ⟨b3, 0, none⟩))]) (fun _ => Y) ?_ ?_ hm ⟨_, none, 0, 0, [], Yf, gx.Yp [0, 1, 2, 3] Y Y, ((show RowN rp_Expr _ 0 [] [] from ⟨Y, Y⟩)), gg.cut (l := [1, 2, 3, 4]) Y⟩
  clear hm; rintro l2 a hu hm ⟨Q, R, G, T, xss3, hv, gc, gy, gh⟩
  rw [hkont1] at hm
  replace hm := hm
  refine a2c (e := .exit 0) gh (a1m (a0c (a0g (a0a (a0q ag24 sz24 Y Y gc Y (i := 1) Y Y (a0o sz24 Y gc Y Y Y Y (i := 2) Y Y Y Y ?_))))))
  intro hw gz
  refine a0e (a0c (a1c ?_))
  obtain ⟨hx, hy, Z, hsx1⟩ := a1g gz (i := 0) Y gy
  refine a3h Y ag24 sz24 Y Z Y (i := 1) Y ?_
  obtain rfl := Yo hm
  exact ⟨_, _, _, Y, Z.Yp [] Y Y, R, G, T, Y, Y, hsx1⟩
  clear hm hkont1; intro hk1 mx1 K ihx1
  rintro ⟨i1, l1⟩ a hz hm ⟨J, L, o, M, xss2, U, x, g0, gi⟩
  simp only [a9y] at hm
  refine a1l gi (a0g (a0g (a0a (a0d Y Y Y (a0f fa24_3 Y Y Y (a0n ag22 Y Y x Y (i := 3) Y Y (a1y ga.len u22 Y Y Y (a0u Y Y Y Y Y (a0e (a0c ?_))))))))))
  rcases a0h hm with ⟨g1, hm⟩ | ⟨g1, hm⟩
  refine a0r 12 Y g1 (a0x Y (a1b (a0c (a0g (a1j (a0g (a0a (a0f fa24_3 Y Y Y (a0n ag22 Y Y x Y (i := 3) Y Y (a0d Y Y Y ?_))))))))))
  obtain ⟨ex1, h0, hm⟩ := Yb hm
  refine a2r (r := rp_Expr) u22 sz24 Y Y Y Y (ga.mono U) h0 ?_
  intro b4 o1 z h1 h2
  obtain ⟨i0, i2, i3, h3, h4⟩ := expr_iff.1 h2
  subst h3
  refine a3c ag24 sz24 Y Y x h1 Y Y ?_
  obtain ⟨v1, h5, hm⟩ := Yb hm
  refine a0i ent7 Y Y Y Y x (ih _ _ h5 x.sat h4) ?_
  rintro _ gd _ i4 V gj ⟨p, t, u, rfl, rfl, ge⟩
  refine a1h ze24 Y Y Y gj ?_
  intro b5 hf gk
  refine a0o sz24 Y gk Y Y Y Y (i := 0) Y Y Y Y ?_
  intro gl k
  refine a0e (a0c (a0g (a0a (a0f fa24_0 Y Y Y (a0n ag3 Y Y k Y (i := 4) Y Y (a0e (a0c (a1j (a0g (a0g (a0a (a0u Y Y Y Y Y (a0b Y Y Y (a0e (a0c ?_)))))))))))))))
  obtain ⟨v2, g, hm⟩ := Yb hm
  refine a6f (fun a w' => gl = w' ∧ Has 44 a [(1, .pointer (some ⟨b1, 0, none⟩)), (2, .pointer (some ⟨b2, 0, none⟩)), (3, .pointer (some ⟨b3, 0, none⟩)), (4, .int .i64 i1), (5, .pointer (some ⟨b5, 0, none⟩)), (29, .bool v2)]) ?_ ?_
  rintro a hg ⟨rfl, gm⟩
  refine a1l gm ?_
  rcases a0h hm with ⟨g2, hm⟩ | ⟨g2, hm⟩
  refine a0r 29 Y g2 (a0x Y (a0a (a0q ag24 sz24 Y Y k Y (i := 0) Y Y (a1f (e := 24) (cs := [.int .i64 v1.Op, .int .i64 v1.N, vs v1.Name, .slice p t u]) (q := 4) Y Y k Y (fun _ => by kernel_rfl) Y Y ?_))))
  intro b6 hh g3
  refine a0f fa24_3 Y Y Y (a0n ag22 Y Y g3 Y (i := 3) Y Y ?_)
  obtain ⟨i5, gf, gn, hsx2⟩ := a1g g3 (i := 2) Y (g0.mono V)
  obtain ⟨l3, h6, hm⟩ := Yb hm
  refine b6d (r := rp_Expr) ap22 Y Y Y gn Y Y (i := 0) Y ((show RowN rp_Expr gd 1 [.int .i64 v1.Op, .int .i64 v1.N, vs v1.Name, .slice p t u] [v1] from ⟨Y, ⟨_, _, Y, (expr_iff.2 ⟨p, t, u, Y, ge⟩), (Y : RowR rp_Expr _ [] [])⟩⟩).mono gf) hsx2 h6 ?_
  intro h7 h8 hi xss6 go h9
  refine a0f fa24_3 Y Y Y (a0o sz22 Y go Y Y Y Y (i := 2) Y Y Y Y ?_)
  intro hj gp
  refine a0e (a1o (a1o (a0c (a0a (a0d Y Y Y (a0u Y Y Y Y Y (a0b Y Y Y (a0e (a0k (fun a ha => ihx1 ((iadd .i64 i1 1), l3) a _ hm ?_))))))))))
  exact ⟨_, h7, (1 + o), h8, xss6, ((U.trans V).trans gf), gp.Yp [0, 2, 3, 4] Y Y, h9, ha.cut (l := [1, 2, 3, 4]) Y⟩
  refine a0r 29 Y g2 (a0p Y (a0a (a0f fa24_3 Y Y Y (a0n ag22 Y Y k Y (i := 2) Y Y (a0q ag24 sz24 Y Y k Y (i := 0) Y Y (a1f (e := 24) (cs := [.int .i64 v1.Op, .int .i64 v1.N, vs v1.Name, .slice p t u]) (q := 4) Y Y k Y (fun _ => by kernel_rfl) Y Y ?_))))))
  intro b7 hk gq
  obtain ⟨l4, hb, hm⟩ := Yb hm
  refine a4n (r := rp_Expr) ap22 Y Y gq Y Y (i := 2) (j := 0) Y Y (g0.mono V) ((show RowN rp_Expr gd 1 [.int .i64 v1.Op, .int .i64 v1.N, vs v1.Name, .slice p t u] [v1] from ⟨Y, ⟨_, _, Y, (expr_iff.2 ⟨p, t, u, Y, ge⟩), (Y : RowR rp_Expr _ [] [])⟩⟩)) hb ?_
  intro hc hd hl gr he
  refine a0f fa24_3 Y Y Y (a0o sz22 Y gr Y Y Y Y (i := 3) Y Y Y Y ?_)
  intro hn gs
  refine a0e (a1o (a1o (a0c (a0a (a0d Y Y Y (a0u Y Y Y Y Y (a0b Y Y Y (a0e (a0k (fun a ha => ihx1 ((iadd .i64 i1 1), l4) a _ hm ?_))))))))))
  exact ⟨_, hc, (o + 1), hd, (xss2 ++ [.int .i64 v1.Op, .int .i64 v1.N, vs v1.Name, .slice p t u]), (U.trans V), gs.Yp [2, 3, 4, 5] Y Y, he, ha.cut (l := [1, 2, 3, 4]) Y⟩
  clear hm
  rcases a0h g with ⟨g4, g⟩ | ⟨g4, g⟩
  refine a0r 29 Y g4 (a0x Y (a1b (a0k (fun a ha => ?_))))
  cases g
  exact ⟨Y, ha.cut (l := [1, 2, 3, 4, 5, 29]) Y⟩
  refine a0r 29 Y g4 (a0p Y (a0g (a0a (a0u Y Y Y Y Y (a0b Y Y Y (a0e (a0c ?_)))))))
  rcases a0h g with ⟨g5, g⟩ | ⟨g5, g⟩
  refine a0r 29 Y g5 (a0x Y (a1b (a0k (fun a ha => ?_))))
  cases g
  exact ⟨Y, ha.cut (l := [1, 2, 3, 4, 5, 29]) Y⟩
  refine a0r 29 Y g5 (a0p Y (a0g (a0a (a0u Y Y Y Y Y (a0b Y Y Y (a0e (a0c ?_)))))))
  rcases a0h g with ⟨g6, g⟩ | ⟨g6, g⟩
  refine a0r 29 Y g6 (a0x Y (a1b (a0k (fun a ha => ?_))))
  cases g
  exact ⟨Y, ha.cut (l := [1, 2, 3, 4, 5, 29]) Y⟩
  refine a0r 29 Y g6 (a0p Y (a0g (a0a (a0u Y Y Y Y Y (a0b Y Y Y (a0e (a0c ?_)))))))
  rcases a0h g with ⟨g7, g⟩ | ⟨g7, g⟩
  refine a0r 29 Y g7 (a0x Y (a1b (a0k (fun a ha => ?_))))
  cases g
  exact ⟨Y, ha.cut (l := [1, 2, 3, 4, 5, 29]) Y⟩
  refine a0r 29 Y g7 (a0p Y (a0g (a0a (a0u Y Y Y Y Y (a0b Y Y Y (a0e (a0c ?_)))))))
  rcases a0h g with ⟨g8, g⟩ | ⟨g8, g⟩
  refine a0r 29 Y g8 (a0x Y (a1b (a0k (fun a ha => ?_))))
  cases g
  exact ⟨Y, ha.cut (l := [1, 2, 3, 4, 5, 29]) Y⟩
  refine a0r 29 Y g8 (a0p Y (a0g (a0a (a0u Y Y Y Y Y (a0b Y Y Y (a0e (a0c ?_)))))))
  rcases a0h g with ⟨g9, g⟩ | ⟨g9, g⟩
  refine a0r 29 Y g9 (a0x Y (a1b (a0k (fun a ha => ?_))))
  cases g
  exact ⟨Y, ha.cut (l := [1, 2, 3, 4, 5, 29]) Y⟩
  refine a0r 29 Y g9 (a0p Y (a0a (a0u Y Y Y Y Y (a0b Y Y Y (a0e (a0k (fun a ha => ?_)))))))
  cases g
  exact ⟨Y, ha.cut (l := [1, 2, 3, 4, 5, 29]) Y⟩
  refine a0r 12 Y g1 (a0p Y (a3p (a0w (a0w (fun a ha => hk1 l1 a _ hm ?_)))))
  exact ⟨_, L, o, M, xss2, U, x.Yp [0, 1, 2] Y Y, g0, ha.cut (l := [2, 3]) Y⟩
theorem b8r (n : Nat) (x1 : Expr) (r : Expr) (hm : law36_turned n x1 = some r) {w : World} {F : Frz} (hs : Sat F w) {g : Option Addr} {h : Nat} {i : Nat} (j : SlR rp_Expr F g h i x1.Args) :
  Calls Tryz.prog 7 #[.agg #[.int .i64 x1.Op, .int .i64 x1.N, vs x1.Name, .slice g h i]] w fun e w' => ∃ v F' O', e = .returned v ∧ HS F w [] F' O' w' ∧ (∃ (a0_3 : Option Addr) (n0_3 : Nat) (c0_3 : Nat), v = .agg #[.int .i64 r.Op, .int .i64 r.N, vs r.Name, .slice a0_3 n0_3 c0_3] ∧ O' = [] ∧ SlR rp_Expr F' a0_3 n0_3 c0_3 r.Args) :=
 (b8f n) x1 r hm hs j
theorem ent4 : Ent Tryz.prog 4 := fun _ _ => by kernel_rfl
theorem ent5 : Ent Tryz.prog 5 := fun _ _ => by kernel_rfl
theorem ent8 : Ent Tryz.prog 8 := fun _ _ => by kernel_rfl
theorem ent9 : Ent Tryz.prog 9 := fun _ _ => by kernel_rfl
def b0f (n : Nat) (t1 : Tariff) (names1 : (List Bs)) (f1 : Facts) (weights1 : (List Frac)) : Option Bool :=
 (b1q n).bind fun v1 =>
 (b3z n t1 names1 f1 weights1).bind fun v2 =>
 bif !v2 then
  some v1
 else
  (a7k n t1 names1 f1 weights1).bind fun v3 =>
  bif v3.2 != 0 then
   some v1
  else
   (law36_turned n t1.Fee).bind fun v4 =>
   (a7k n (⟨t1.Name, v4, t1.Cap⟩ : Tariff) names1 f1 weights1).bind fun v5 =>
   (b0v n t1).bind fun v6 =>
   (a9c n v6.1).bind fun v7 =>
   (a9u n v7.1 names1 f1 weights1).bind fun v8 =>
   (a9u n t1 names1 f1 weights1).bind fun v9 =>
   (bif v1 then
    some v6.2
   else
    some false).bind fun v10 =>
   (bif v10 then
    some (v7.2.2 == 0)
   else
    some false).bind fun v11 =>
   (bif v11 then
    some (v5.2 == 0)
   else
    some false).bind fun v12 =>
   (bif v12 then
    some (v8.2 == 0)
   else
    some false).bind fun v13 =>
   (bif v13 then
    some (v9.2 == 0)
   else
    some false).bind fun v14 =>
   (bif v14 then
    (a5g n v3.1 v5.1).bind fun v18 =>
    some v18
   else
    some false).bind fun v15 =>
   (bif v15 then
    (a5g n v8.1 v9.1).bind fun v17 =>
    some v17
   else
    some false).bind fun v16 =>
   some v16
theorem law36_FeeTurns_ok (n : Nat) (t1 : Tariff) (names1 : (List Bs)) (f1 : Facts) (weights1 : (List Frac)) (r : Bool) (hm : b0f n t1 names1 f1 weights1 = some r) {w : World} {F : Frz} (hs : Sat F w) {J h4 gd h5 : Option Addr} {K L h6 h7 ge gf h8 h9 : Nat} (M : SlR rp_Expr F J K L t1.Fee.Args) (R : SlR Rp.str F h4 h6 h7 names1) (T : SlR (Rp.int .i64) F gd ge gf f1.Lifts) (U : SlR rp_Frac F h5 h8 h9 weights1) (hg0 : FX F 0 [.int .u8 40, .int .u8 41, .int .u8 44, .int .u8 59, .int .u8 58, .int .u8 61, .int .u8 60, .int .u8 43, .int .u8 45, .int .u8 42, .int .u8 47, .int .u8 123, .int .u8 125]) (hg1 : FX F 1 (Lib.pow10Tab.map (Value.int .u64))) :
  Calls Tryz.prog 3 #[.agg #[vs t1.Name, .int .i64 t1.Fee.Op, .int .i64 t1.Fee.N, vs t1.Fee.Name, .slice J K L, .int .i64 t1.Cap], .slice h4 h6 h7, .agg #[.slice gd ge gf, .int .i64 f1.Persons, .int .i64 f1.Flats], .slice h5 h8 h9] w fun e w' => ∃ v F' O', e = .returned v ∧ HS F w [] F' O' w' ∧ (v = .bool r ∧ O' = []) := by
 unfold b0f at hm
 have h := HS.init hs
 refine a1a 113 Tryz.func3 Y Y Y (a0g (a0a (a2z Y Y Y Y h ?_)))
 intro b1 k1 ir
 refine a2z Y Y Y Y ir ?_
 intro b2 k2 hb
 refine a0b Y Y Y (a0e (a0c (a0g (a0a ?_))))
 obtain ⟨v1, it, hm⟩ := Yb hm
 refine a0i ent4 Y Y Y Y hb (c0w _ _ it hb.sat) ?_
 rintro _ k3 _ k4 g gg ⟨rfl, rfl⟩
 refine a0b Y Y Y (a0e (a0c (a0g (a0g (a0a (a0q ag26 sz26 Y Y gg Y (i := 1) Y Y (a0d Y Y Y (a0q ag30 sz30 Y Y gg Y (i := 0) Y Y (a0d Y Y Y ?_)))))))))
 obtain ⟨v2, iu, hm⟩ := Yb hm
 refine a0i ent5 Y Y Y Y gg (c3i _ _ _ _ _ _ iu gg.sat (M.mono g) (R.mono g) (T.mono g) (U.mono g)) ?_
 rintro _ k5 _ k6 u V ⟨rfl, rfl⟩
 refine a4c Y Y Y (a0e (a0c ?_))
 rcases a0h hm with ⟨gj, hm⟩ | ⟨gj, hm⟩
 refine a0r 30 Y gj (a0x Y (a0g (a0a (a0d Y Y Y (a0b Y Y Y (a0e (a0c (a1c (a0j (a1n Y Y ?_))))))))))
 obtain rfl := Yo hm
 exact ⟨_, _, _, Y, V.Yp [] Y Y, Y, Y⟩
 refine a0r 30 Y gj (a0p Y (a1b (a0c (a0g (a0a (a0q ag26 sz26 Y Y V Y (i := 1) Y Y (a0d Y Y Y (a0q ag30 sz30 Y Y V Y (i := 0) Y Y (a0d Y Y Y ?_)))))))))
 obtain ⟨v3, iv, hm⟩ := Yb hm
 refine a0i ent6 Y Y Y Y V (b1z _ _ _ _ _ _ iv V.sat ((M.mono g).mono u) ((R.mono g).mono u) ((T.mono g).mono u) ((U.mono g).mono u)) ?_
 rintro _ k7 _ k8 hc iw ⟨hd, he, hf, hg, hh, hi, rfl, rfl, ix, iy⟩
 refine a0d Y Y Y (a0l Y Y Y Y (a0l Y Y Y Y (a1h ze37 Y Y Y iw ?_)))
 intro b3 k9 iz
 refine a0o sz37 Y iz Y Y Y Y (i := 0) Y Y Y Y ?_
 intro ka gk
 refine a0b Y Y Y (a0e (a0c (a0g (a0g (a0a (a0d Y Y Y (a0u Y Y Y Y Y (a0e (a0c ?_)))))))))
 rcases a0h hm with ⟨gl, hm⟩ | ⟨gl, hm⟩
 refine a0r 41 Y gl (a0x Y (a0g (a0a (a0d Y Y Y (a0b Y Y Y (a0e (a0c (a1c (a0j (a1n Y Y ?_))))))))))
 obtain rfl := Yo hm
 exact ⟨_, _, _, Y, gk.Yp [] Y Y, Y, Y⟩
 refine a0r 41 Y gl (a0p Y (a1b (a0c (a0g (a0a (a0q ag26 sz26 Y Y gk Y (i := 2) Y Y (a1h ze26 Y Y Y gk ?_)))))))
 intro b4 kb j0
 refine a0o sz26 Y j0 Y Y Y Y (i := 0) Y Y Y Y ?_
 intro kc gm
 refine a0e (a0c (a0g (a0a (a0f fa26_1 Y Y Y (a2p (cs' := [.int .i64 t1.Fee.Op, .int .i64 t1.Fee.N, vs t1.Fee.Name, .slice J K L]) ag24 sz24 Y Y gm Y (i := 3) Y Y Y ?_)))))
 obtain ⟨v4, j1, hm⟩ := Yb hm
 refine a0i ent7 Y Y Y Y gm (b8r _ _ _ j1 gm.sat (((M.mono g).mono u).mono hc)) ?_
 rintro _ kd _ jb hj hx ⟨hk, hl, hn, rfl, rfl, j2⟩
 refine a0f fa26_1 Y Y Y (a0o sz24 Y hx Y Y Y Y (i := 0) Y Y Y Y ?_)
 intro jc y
 refine a0e (a0c (a0g (a0a (a0q ag26 sz26 Y Y y Y (i := 0) Y Y (a0d Y Y Y (a0q ag30 sz30 Y Y y Y (i := 2) Y Y (a0d Y Y Y ?_)))))))
 have j := ((g.trans u).trans hc).trans hj
 obtain ⟨v5, j3, hm⟩ := Yb hm
 refine a0i ent6 Y Y Y Y y (b1z _ _ _ _ _ _ j3 y.sat j2 (R.mono j) (T.mono j) (U.mono j)) ?_
 rintro _ ke _ jd k hy ⟨ho, hp, hq, hr, ht, hu, rfl, rfl, j4, j5⟩
 refine a0d Y Y Y (a0l Y Y Y Y (a0l Y Y Y Y (a1h ze37 Y Y Y hy ?_)))
 intro b5 je hz
 refine a0o sz37 Y hz Y Y Y Y (i := 0) Y Y Y Y ?_
 intro jf g4
 refine a0b Y Y Y (a0e (a0c (a0g (a0a (a0q ag26 sz26 Y Y g4 Y (i := 4) Y Y ?_)))))
 obtain ⟨v6, j6, hm⟩ := Yb hm
 refine a0i ent8 Y Y Y Y g4 (c0g _ _ _ j6 g4.sat ((M.mono j).mono k) ((hg1.mono j).mono k)) ?_
 rintro _ kf _ jg m gn ⟨rfl, rfl⟩
 refine a0d Y Y Y (a0l Y Y Y Y (a0l Y Y Y Y (a0b Y Y Y (a0b Y Y Y (a0e (a0c (a0g (a0a (a0d Y Y Y ?_)))))))))
 obtain ⟨v7, j7, hm⟩ := Yb hm
 refine a0i ent9 Y Y Y Y gn (b9n _ _ _ j7 gn.sat (((hg0.mono j).mono k).mono m)) ?_
 rintro _ kg _ jh x i0 ⟨go, gp, gq, rfl, rfl, i1⟩
 refine a0d Y Y Y (a0l Y Y Y Y (a0l Y Y Y Y (a0l Y Y Y Y (a1h ze26 Y Y Y i0 ?_))))
 intro b6 ji i2
 refine a0o sz26 Y i2 Y Y Y Y (i := 0) Y Y Y Y ?_
 intro jj z
 refine a0b Y Y Y (a0b Y Y Y (a0e (a0c (a0g (a0a (a0q ag26 sz26 Y Y z Y (i := 0) Y Y (a0d Y Y Y (a0q ag30 sz30 Y Y z Y (i := 4) Y Y (a0d Y Y Y ?_)))))))))
 obtain ⟨v8, j8, hm⟩ := Yb hm
 refine a0i ent10 Y Y Y Y z (b3c _ _ _ _ _ _ j8 z.sat i1 ((((R.mono j).mono k).mono m).mono x) ((((T.mono j).mono k).mono m).mono x) ((((U.mono j).mono k).mono m).mono x)) ?_
 rintro _ kh _ jk gr i3 ⟨gs, gt, gu, gv, gw, gx, rfl, rfl, i4, i5⟩
 refine a0d Y Y Y (a0l Y Y Y Y (a0l Y Y Y Y (a1h ze37 Y Y Y i3 ?_)))
 intro b7 jl i6
 refine a0o sz37 Y i6 Y Y Y Y (i := 0) Y Y Y Y ?_
 intro jm G
 refine a0b Y Y Y (a0e (a0c (a0g (a0a (a0q ag26 sz26 Y Y G Y (i := 6) Y Y (a0d Y Y Y (a0q ag30 sz30 Y Y G Y (i := 5) Y Y (a0d Y Y Y ?_))))))))
 have gh := (((j.trans k).trans m).trans x).trans gr
 obtain ⟨v9, j9, hm⟩ := Yb hm
 refine a0i ent10 Y Y Y Y G (b3c _ _ _ _ _ _ j9 G.sat (M.mono gh) (R.mono gh) (T.mono gh) (U.mono gh)) ?_
 rintro _ ja _ jn gi i7 ⟨gy, gz, h0, h1, h2, h3, rfl, rfl, i8, i9⟩
 refine a0d Y Y Y (a0l Y Y Y Y (a0l Y Y Y Y (a1h ze37 Y Y Y i7 ?_)))
 intro b8 jo ia
 refine a0o sz37 Y ia Y Y Y Y (i := 0) Y Y Y Y ?_
 intro o p
 refine a0b Y Y Y (a0e (a0c (a0g (a0a (a0d Y Y Y (a0d Y Y Y ?_))))))
 obtain ⟨v10, Z, hm⟩ := Yb hm
 refine a2g 2 (fun a w' => o = w' ∧ Has 113 a [(10, .pointer (some ⟨b3, 0, none⟩)), (13, .pointer (some ⟨b5, 0, none⟩)), (14, .int .i64 v5.2), (19, .int .i64 v7.2.2), (20, .pointer (some ⟨b7, 0, none⟩)), (21, .int .i64 v8.2), (22, .pointer (some ⟨b8, 0, none⟩)), (23, .int .i64 v9.2), (86, .bool v10)]) ?_ ?_
 rintro a jp ⟨rfl, ib⟩
 refine a1d ib (a0d Y Y Y ?_)
 obtain ⟨v11, g0, hm⟩ := Yb hm
 refine a2g 3 (fun a w' => o = w' ∧ Has 113 a [(10, .pointer (some ⟨b3, 0, none⟩)), (13, .pointer (some ⟨b5, 0, none⟩)), (14, .int .i64 v5.2), (20, .pointer (some ⟨b7, 0, none⟩)), (21, .int .i64 v8.2), (22, .pointer (some ⟨b8, 0, none⟩)), (23, .int .i64 v9.2), (90, .bool v11)]) ?_ ?_
 rintro a jq ⟨rfl, ic⟩
 refine a1d ic (a0d Y Y Y ?_)
 obtain ⟨v12, g1, hm⟩ := Yb hm
 refine a2g 3 (fun a w' => o = w' ∧ Has 113 a [(10, .pointer (some ⟨b3, 0, none⟩)), (13, .pointer (some ⟨b5, 0, none⟩)), (20, .pointer (some ⟨b7, 0, none⟩)), (21, .int .i64 v8.2), (22, .pointer (some ⟨b8, 0, none⟩)), (23, .int .i64 v9.2), (94, .bool v12)]) ?_ ?_
 rintro a jr ⟨rfl, id⟩
 refine a1d id (a0d Y Y Y ?_)
 obtain ⟨v13, g2, hm⟩ := Yb hm
 refine a2g 3 (fun a w' => o = w' ∧ Has 113 a [(10, .pointer (some ⟨b3, 0, none⟩)), (13, .pointer (some ⟨b5, 0, none⟩)), (20, .pointer (some ⟨b7, 0, none⟩)), (22, .pointer (some ⟨b8, 0, none⟩)), (23, .int .i64 v9.2), (98, .bool v13)]) ?_ ?_
 rintro a js ⟨rfl, ie⟩
 refine a1d ie (a0d Y Y Y ?_)
 obtain ⟨v14, g3, hm⟩ := Yb hm
 refine a2g 3 (fun a w' => o = w' ∧ Has 113 a [(10, .pointer (some ⟨b3, 0, none⟩)), (13, .pointer (some ⟨b5, 0, none⟩)), (20, .pointer (some ⟨b7, 0, none⟩)), (22, .pointer (some ⟨b8, 0, none⟩)), (102, .bool v14)]) ?_ ?_
 rintro a jt ⟨rfl, ig⟩
 refine a1d ig (a0d Y Y Y ?_)
 obtain ⟨v15, q, hm⟩ := Yb hm
 refine a2g 4 (fun a w' => ∃ (H : Frz), Frz.le ja H ∧ HS F w [] H [.box b8 37 [.int .i64 v9.1.P.Sign, .slice gy gz h0, .int .i64 v9.1.Q.Sign, .slice h1 h2 h3], .box b7 37 [.int .i64 v8.1.P.Sign, .slice gs gt gu, .int .i64 v8.1.Q.Sign, .slice gv gw gx], .box b6 26 [vs v7.1.Name, .int .i64 v7.1.Fee.Op, .int .i64 v7.1.Fee.N, vs v7.1.Fee.Name, .slice go gp gq, .int .i64 v7.1.Cap], .box b5 37 [.int .i64 v5.1.P.Sign, .slice ho hp hq, .int .i64 v5.1.Q.Sign, .slice hr ht hu], .box b4 26 [vs t1.Name, .int .i64 v4.Op, .int .i64 v4.N, vs v4.Name, .slice hk hl hn, .int .i64 t1.Cap], .box b3 37 [.int .i64 v3.1.P.Sign, .slice hd he hf, .int .i64 v3.1.Q.Sign, .slice hg hh hi], .box b2 30 [.slice gd ge gf, .int .i64 f1.Persons, .int .i64 f1.Flats], .box b1 26 [vs t1.Name, .int .i64 t1.Fee.Op, .int .i64 t1.Fee.N, vs t1.Fee.Name, .slice J K L, .int .i64 t1.Cap]] w' ∧ Has 113 a [(20, .pointer (some ⟨b7, 0, none⟩)), (22, .pointer (some ⟨b8, 0, none⟩)), (107, .bool v15)]) ?_ ?_
 rintro a ju ⟨H, I, s, ih⟩
 refine a1d ih (a0d Y Y Y ?_)
 obtain ⟨v16, t, hm⟩ := Yb hm
 refine a2g 4 (fun a w' => ∃ (g5 : Frz), Frz.le H g5 ∧ HS F w [] g5 [.box b8 37 [.int .i64 v9.1.P.Sign, .slice gy gz h0, .int .i64 v9.1.Q.Sign, .slice h1 h2 h3], .box b7 37 [.int .i64 v8.1.P.Sign, .slice gs gt gu, .int .i64 v8.1.Q.Sign, .slice gv gw gx], .box b6 26 [vs v7.1.Name, .int .i64 v7.1.Fee.Op, .int .i64 v7.1.Fee.N, vs v7.1.Fee.Name, .slice go gp gq, .int .i64 v7.1.Cap], .box b5 37 [.int .i64 v5.1.P.Sign, .slice ho hp hq, .int .i64 v5.1.Q.Sign, .slice hr ht hu], .box b4 26 [vs t1.Name, .int .i64 v4.Op, .int .i64 v4.N, vs v4.Name, .slice hk hl hn, .int .i64 t1.Cap], .box b3 37 [.int .i64 v3.1.P.Sign, .slice hd he hf, .int .i64 v3.1.Q.Sign, .slice hg hh hi], .box b2 30 [.slice gd ge gf, .int .i64 f1.Persons, .int .i64 f1.Flats], .box b1 26 [vs t1.Name, .int .i64 t1.Fee.Op, .int .i64 t1.Fee.N, vs t1.Fee.Name, .slice J K L, .int .i64 t1.Cap]] w' ∧ Has 113 a [(112, .bool v16)]) ?_ ?_
 rintro a jv ⟨g5, jw, ii, ij⟩
 refine a1d ij (a0b Y Y Y (a0e (a0c (a1c (a1n Y Y ?_)))))
 obtain rfl := Yo hm
 exact ⟨_, _, _, Y, ii.Yp [] Y Y, Y, Y⟩
 clear hm
 rcases a0h t with ⟨g6, t⟩ | ⟨g6, t⟩
 refine a1k 108 Y g6 (a0q ag37 sz37 Y Y s Y (i := 1) Y Y (a0q ag37 sz37 Y Y s Y (i := 0) Y Y ?_))
 obtain ⟨v17, ik, t⟩ := Yb t
 refine a0i ent11 Y Y Y Y s (a8e _ _ _ _ ik s.sat ((i4.mono gi).mono I) ((i5.mono gi).mono I) (i8.mono I) (i9.mono I)) ?_
 rintro _ jx _ jy il im ⟨rfl, rfl⟩
 refine a0s Y Y Y Y (a0e (a0k (fun a ha => ?_)))
 cases t
 exact ⟨_, il, im.Yp [0, 1, 2, 3, 4, 5, 6, 7] Y Y, ha.cut (l := [112]) Y⟩
 refine a1k 108 Y g6 (a0y Y (by decide) Y (a0y Y (by decide) Y (a0y Y (by decide) Y (a0m Y Y Y Y (a0e (a0k (fun a ha => ?_)))))))
 cases t
 exact ⟨_, Yf, s.Yp [0, 1, 2, 3, 4, 5, 6, 7] Y Y, ha.cut (l := [112]) Y⟩
 clear hm
 rcases a0h q with ⟨g7, q⟩ | ⟨g7, q⟩
 refine a1k 103 Y g7 (a0q ag37 sz37 Y Y p Y (i := 5) Y Y (a0q ag37 sz37 Y Y p Y (i := 3) Y Y ?_))
 have hv := ((((hj.trans k).trans m).trans x).trans gr).trans gi
 have hw := ((m.trans x).trans gr).trans gi
 obtain ⟨v18, io, q⟩ := Yb q
 refine a0i ent11 Y Y Y Y p (a8e _ _ _ _ io p.sat (ix.mono hv) (iy.mono hv) (j4.mono hw) (j5.mono hw)) ?_
 rintro _ jz _ k0 ip iq ⟨rfl, rfl⟩
 refine a0s Y Y Y Y (a0e (a0k (fun a ha => ?_)))
 cases q
 exact ⟨_, ip, iq.Yp [0, 1, 2, 3, 4, 5, 6, 7] Y Y, ha.cut (l := [20, 22, 107]) Y⟩
 refine a1k 103 Y g7 (a0y Y (by decide) Y (a0y Y (by decide) Y (a0y Y (by decide) Y (a0m Y Y Y Y (a0e (a0k (fun a ha => ?_)))))))
 cases q
 exact ⟨_, Yf, p.Yp [0, 1, 2, 3, 4, 5, 6, 7] Y Y, ha.cut (l := [20, 22, 107]) Y⟩
 clear hm
 rcases a0h g3 with ⟨g8, g3⟩ | ⟨g8, g3⟩
 refine a1k 99 Y g8 (a0d Y Y Y (a0u Y Y Y Y Y (a0s Y Y Y Y (a0e (a0k (fun a ha => ?_))))))
 cases g3
 exact ⟨Y, ha.cut (l := [10, 13, 20, 22, 102]) Y⟩
 refine a1k 99 Y g8 (a0y Y (by decide) Y (a0y Y (by decide) Y (a0m Y Y Y Y (a0e (a0k (fun a ha => ?_))))))
 cases g3
 exact ⟨Y, ha.cut (l := [10, 13, 20, 22, 102]) Y⟩
 clear hm
 rcases a0h g2 with ⟨g9, g2⟩ | ⟨g9, g2⟩
 refine a1k 95 Y g9 (a0d Y Y Y (a0u Y Y Y Y Y (a0s Y Y Y Y (a0e (a0k (fun a ha => ?_))))))
 cases g2
 exact ⟨Y, ha.cut (l := [10, 13, 20, 22, 23, 98]) Y⟩
 refine a1k 95 Y g9 (a0y Y (by decide) Y (a0y Y (by decide) Y (a0m Y Y Y Y (a0e (a0k (fun a ha => ?_))))))
 cases g2
 exact ⟨Y, ha.cut (l := [10, 13, 20, 22, 23, 98]) Y⟩
 clear hm
 rcases a0h g1 with ⟨ga, g1⟩ | ⟨ga, g1⟩
 refine a1k 91 Y ga (a0d Y Y Y (a0u Y Y Y Y Y (a0s Y Y Y Y (a0e (a0k (fun a ha => ?_))))))
 cases g1
 exact ⟨Y, ha.cut (l := [10, 13, 20, 21, 22, 23, 94]) Y⟩
 refine a1k 91 Y ga (a0y Y (by decide) Y (a0y Y (by decide) Y (a0m Y Y Y Y (a0e (a0k (fun a ha => ?_))))))
 cases g1
 exact ⟨Y, ha.cut (l := [10, 13, 20, 21, 22, 23, 94]) Y⟩
 clear hm
 rcases a0h g0 with ⟨gb, g0⟩ | ⟨gb, g0⟩
 refine a1k 87 Y gb (a0d Y Y Y (a0u Y Y Y Y Y (a0s Y Y Y Y (a0e (a0k (fun a ha => ?_))))))
 cases g0
 exact ⟨Y, ha.cut (l := [10, 13, 14, 20, 21, 22, 23, 90]) Y⟩
 refine a1k 87 Y gb (a0y Y (by decide) Y (a0y Y (by decide) Y (a0m Y Y Y Y (a0e (a0k (fun a ha => ?_))))))
 cases g0
 exact ⟨Y, ha.cut (l := [10, 13, 14, 20, 21, 22, 23, 90]) Y⟩
 clear hm
 rcases a0h Z with ⟨gc, Z⟩ | ⟨gc, Z⟩
 refine a1k 84 Y gc (a0d Y Y Y (a0s Y Y Y Y (a0e (a0k (fun a ha => ?_)))))
 cases Z
 exact ⟨Y, ha.cut (l := [10, 13, 14, 19, 20, 21, 22, 23, 86]) Y⟩
 refine a1k 84 Y gc (a0y Y (by decide) Y (a0m Y Y Y Y (a0e (a0k (fun a ha => ?_)))))
 cases Z
 exact ⟨Y, ha.cut (l := [10, 13, 14, 19, 20, 21, 22, 23, 86]) Y⟩
end Go.Proofs.YtknpjecpcmajiaaGreatDoor.M

namespace Go.Proofs.YtknpjecpcmajiaaGreatDoor.Rt
open Go
def Ev {α : Type} (f : Nat → Option α) (r : α) : Prop := ∃ N, ∀ n, N ≤ n → f n = some r
section
variable {α β : Type}
theorem Ev.pure (a : α) : Ev (fun _ => some a) a := ⟨0, fun _ _ => rfl⟩
theorem Ev.all {f : Nat → Option α} {r : α} (h : ∀ n, f n = some r) : Ev f r := ⟨0, fun n _ => h n⟩
theorem Ev.bind {x : Nat → Option α} {f : Nat → α → Option β} {a : α} {b : β} (hx : Ev x a) (hf : Ev (fun n => f n a) b) : Ev (fun n => (x n).bind (f n)) b := by
 obtain ⟨N, hN⟩ := hx
 obtain ⟨M, hM⟩ := hf
 refine ⟨max N M, fun n hn => ?_⟩
 show (x n).bind (f n) = some b
 rw [hN n (by omega)]
 exact hM n (by omega)
theorem Ev.step {x : Option α} {f : Nat → α → Option β} {a : α} {b : β} (hx : x = some a) (hf : Ev (fun n => f n a) b) : Ev (fun n => x.bind (f n)) b := by
 subst hx; exact hf
theorem Ev.then {x : Nat → Option α} {b : α} {c : Bool} {y : Nat → Option α} (hc : c = true) (h : Ev x b) : Ev (fun n => bif c then x n else y n) b := by subst hc; exact h
theorem Ev.else {x : Nat → Option α} {b : α} {c : Bool} {y : Nat → Option α} (hc : c = false) (h : Ev y b) : Ev (fun n => bif c then x n else y n) b := by subst hc; exact h
theorem Ev.from {f g : Nat → Option α} {r : α} (N : Nat) (h : ∀ n, N ≤ n → f n = g n) (hg : Ev g r) : Ev f r := by
 obtain ⟨M, hM⟩ := hg
 exact ⟨max N M, fun n hn => by rw [h n (by omega)]; exact hM n (by omega)⟩
theorem Ev.eq {f : Nat → Option α} {r s : α} (h : Ev f r) (e : r = s) : Ev f s := e ▸ h
theorem Ev.uniq {f : Nat → Option α} {r s : α} (h : Ev f r) (k : Ev f s) : r = s := by
 obtain ⟨N, hN⟩ := h
 obtain ⟨M, hM⟩ := k
 have h1 := hN (max N M) (by omega)
 rw [hM (max N M) (by omega)] at h1
 exact (Option.some.inj h1).symm
end
theorem d2x (x : Int) : IntKind.i64.wrap x = if x % 18446744073709551616 ≥ 9223372036854775808 then x % 18446744073709551616 - 18446744073709551616 else x % 18446744073709551616 := by
 simp [IntKind.wrap, IntKind.bits, IntKind.signed]
theorem a6t {x : Int} (h1 : -9223372036854775808 ≤ x) (h2 : x ≤ 9223372036854775807) : IntKind.i64.wrap x = x := by
 rw [d2x]; split <;> omega
theorem b4o (x : Int) : IntKind.u64.wrap x = x % 18446744073709551616 := by
 simp [IntKind.wrap, IntKind.bits, IntKind.signed]
theorem a5n {x y : Int} (h1 : -9223372036854775808 ≤ x + y) (h2 : x + y ≤ 9223372036854775807) : iadd .i64 x y = x + y := a6t h1 h2
theorem a3k {x y : Int} (h1 : -9223372036854775808 ≤ x - y) (h2 : x - y ≤ 9223372036854775807) : isub .i64 x y = x - y := a6t h1 h2
theorem a8s {x y : Int} (h1 : -9223372036854775808 ≤ x * y) (h2 : x * y ≤ 9223372036854775807) : imul .i64 x y = x * y := a6t h1 h2
theorem c1v (k : IntKind) (x : Int) (m : Nat) (hk : k.bits = 64) (hm : m < 64) : (BitVec.ofInt k.bits x &&& BitVec.ofInt k.bits ((2 ^ m - 1 : Nat) : Int)).toNat = (x % 18446744073709551616).toNat % 2 ^ m := by
 rw [BitVec.toNat_and, BitVec.toNat_ofInt, BitVec.toNat_ofInt, hk]
 have h2 : (((2 ^ m - 1 : Nat) : Int) % ((2 ^ 64 : Nat) : Int)).toNat = 2 ^ m - 1 := by
  have : 2 ^ m < 2 ^ 64 := Nat.pow_lt_pow_right (by omega) hm
  rw [← Int.natCast_emod, Int.toNat_natCast, Nat.mod_eq_of_lt (by omega)]
 rw [h2, Nat.and_two_pow_sub_one_eq_mod]
 rfl
theorem b4q (x : Int) : iand .i64 x 1048575 = x % 1048576 := by
 have h := c1v .i64 x 20 rfl (by omega)
 have e : ((2 ^ 20 - 1 : Nat) : Int) = 1048575 := by decide
 rw [e] at h
 unfold iand
 rw [h, a6t (by omega) (by omega)]
 omega
theorem c7n {x : Int} (h0 : 0 ≤ x) (h1 : x < 18446744073709551616) : iand .u64 x 1048575 = x % 1048576 := by
 have h := c1v .u64 x 20 rfl (by omega)
 have e : ((2 ^ 20 - 1 : Nat) : Int) = 1048575 := by decide
 rw [e] at h
 unfold iand
 rw [h, b4o]
 omega
theorem d1x (x : Int) : iand .i64 x 1 = x % 2 := by
 have h := c1v .i64 x 1 rfl (by omega)
 have e : ((2 ^ 1 - 1 : Nat) : Int) = 1 := by decide
 rw [e] at h
 unfold iand
 rw [h, a6t (by omega) (by omega)]
 omega
theorem b9c (x : Int) : shr .i64 x 20 = some (x / 1048576) := by
 unfold shr
 rw [if_neg (by omega), Int.fdiv_eq_ediv_of_nonneg _ (by decide)]
 rfl
theorem d4x (x : Int) : shr .u64 x 20 = some (x / 1048576) := by
 unfold shr
 rw [if_neg (by omega), Int.fdiv_eq_ediv_of_nonneg _ (by decide)]
 rfl
theorem b9r {x : Int} (h0 : -8796093022208 ≤ x) (h1 : x < 8796093022208) : shl .i64 x 20 = some (x * 1048576) := by
 unfold shl
 rw [if_neg (by omega), show (2 : Int) ^ (min (20 : Int).toNat IntKind.i64.bits) = 1048576 from by decide, a6t (by omega) (by omega)]
theorem c0f {x y : Int} (h0 : 0 ≤ x) (h1 : x < 8796093022208) (h2 : 0 ≤ y) (h3 : y < 1048576) : ior .i64 (x * 1048576) y = x * 1048576 + y := by
 obtain ⟨p, rfl⟩ := Int.eq_ofNat_of_zero_le h0
 obtain ⟨q, rfl⟩ := Int.eq_ofNat_of_zero_le h2
 unfold ior
 rw [BitVec.toNat_or, BitVec.toNat_ofInt, BitVec.toNat_ofInt, show IntKind.i64.bits = 64 from rfl]
 have e1 : (((p : Int) * 1048576) % ((2 ^ 64 : Nat) : Int)).toNat = 2 ^ 20 * p := by omega
 have e2 : ((q : Int) % ((2 ^ 64 : Nat) : Int)).toNat = q := by omega
 rw [e1, e2, ← Nat.two_pow_add_eq_or_of_lt (by omega), a6t (by omega) (by omega)]
 omega
theorem c9v {x y : Int} (h0 : 0 ≤ x) (h1 : x ≤ 9223372036854775807) (h2 : 0 < y) : quo .i64 x y = some (x / y) := by
 unfold quo
 have h3 := Int.ediv_nonneg h0 (Int.le_of_lt h2)
 have h4 := Int.ediv_le_self y h0
 rw [if_neg (by omega), Int.tdiv_eq_ediv_of_nonneg h0, a6t (by omega) (by omega)]
theorem c8h {x y : Int} (h0 : 0 ≤ x) (h2 : 0 < y) : rem x y = some (x % y) := by
 unfold rem
 rw [if_neg (by omega), Int.tmod_eq_emod_of_nonneg h0]
section
variable {α : Type}
theorem b7k (l : List α) (i : Nat) : ix l (i : Int) = l[i]? := by simp [ix]
theorem a9o (p : List α) (x : α) (s : List α) {i : Int} (hi : i = p.length) : ix (p ++ x :: s) i = some x := by
 subst hi; rw [b7k]; simp
theorem b1b (p : List α) (x y : α) (s : List α) {i : Int} (hi : i = p.length) : lset (p ++ x :: s) i y = some (p ++ y :: s) := by
 subst hi
 unfold lset
 rw [if_pos ⟨by omega, by simp; omega⟩]
 simp
theorem c6u {b : Nat} {z : α} {n : Nat} (h : n * b ≤ 140737488355328) : mks b z (n : Int) = some (List.replicate n z) := by
 unfold mks; rw [if_pos ⟨by omega, by simpa using h⟩]; simp
theorem c6c {b : Nat} {l m : List α} (h : (l.length + m.length) * b ≤ 140737488355328) : app b l m = some (l ++ m) := by unfold app; rw [if_pos h]
theorem d0w {l : List α} {p q : Nat} (h : p ≤ q) (h2 : q ≤ l.length) : lsl l (p : Int) (q : Int) = some ((l.take q).drop p) := by
 unfold lsl; rw [if_pos ⟨by omega, by omega, by omega⟩]; simp
end
end Go.Proofs.YtknpjecpcmajiaaGreatDoor.Rt

namespace Go.Proofs.YtknpjecpcmajiaaGreatDoor.Rt
open Go
theorem inc64 {i : Nat} (h : i < 4611686018427387904) : iadd .i64 (i : Int) 1 = ((i + 1 : Nat) : Int) := by rw [a5n (by omega) (by omega)]; omega
theorem d4w {i : Nat} (h : i < 4611686018427387904) : isub .i64 ((i + 1 : Nat) : Int) 1 = (i : Int) := by rw [a3k (by omega) (by omega)]; omega
theorem drop_cons {α : Type} {a : List α} {i : Nat} {x : α} {xs : List α} (h : a.drop i = x :: xs) : ix a (i : Int) = some x ∧ a.drop (i + 1) = xs ∧ i < a.length := by
 have h1 : i < a.length := by
  rcases Nat.lt_or_ge i a.length with h2 | h2
  ·exact h2
  ·rw [List.drop_eq_nil_of_le h2] at h; cases h
 rw [List.drop_eq_getElem_cons h1] at h
 injection h with h2 h3
 exact ⟨by rw [b7k, List.getElem?_eq_getElem h1, h2], h3, h1⟩
theorem drop_nil {α : Type} {a : List α} {i : Nat} (h : a.drop i = []) : a.length ≤ i := by simpa using h
theorem a5c {α : Type} {a : List α} {i : Nat} {x : α} {xs : List α} (h : a.drop i = x :: xs) : decide ((i : Int) < (a.length : Int)) = true := by
 have := (drop_cons h).2.2
 exact decide_eq_true (by omega)
theorem b0x {α : Type} {a : List α} {i : Nat} (h : a.drop i = []) : decide ((i : Int) < (a.length : Int)) = false := by
 have := drop_nil h
 exact decide_eq_false (by omega)
section
variable {β : Type} {r : β} {c d : Bool} {y : Nat → Option Bool} {f : Nat → Bool → Option β}
theorem and_call (hc : c = true) (hy : Ev y true) (hf : Ev (fun n => f n true) r) : Ev (fun n => (bif c then (y n).bind fun v => some v else some false).bind (f n)) r :=
 Ev.bind (a := true) (Ev.then hc (Ev.bind hy (Ev.pure _))) hf
theorem and_pure (hc : c = true) (hd : d = true) (hf : Ev (fun n => f n true) r) : Ev (fun n => (bif c then some d else some false).bind (f n)) r :=
 Ev.bind (a := true) (Ev.then hc (by subst hd; exact Ev.pure _)) hf
theorem guard {V : Bool} {rest : Nat → Option Bool} (h : V = false → Ev rest true) : Ev (fun n => bif V then some true else rest n) true := by
 cases V with
 | true => exact Ev.then rfl (Ev.pure _)
 | false => exact Ev.else rfl (h rfl)
theorem Ev.conv {α : Type} {x y : Nat → Option α} {s : α} (e : ∀ n, x n = y n) (h : Ev y s) : Ev x s := by
 obtain ⟨N, hN⟩ := h
 exact ⟨N, fun n hn => by rw [e n]; exact hN n hn⟩
end
theorem c4g {α : Type} {b : Nat} {l m : List α} (h : (l.length + m.length) * b ≤ 140737488355328) : app b l m = some (l ++ m) := c6c h
end Go.Proofs.YtknpjecpcmajiaaGreatDoor.Rt

namespace Go.Proofs.YtknpjecpcmajiaaGreatDoor.Rt
open Go
theorem Ev.suc {α : Type} {f g : Nat → Option α} {r : α} (e : ∀ n, f (n + 1) = g n) (h : Ev g r) : Ev f r := by
 obtain ⟨N, hN⟩ := h
 refine ⟨N + 1, fun n hn => ?_⟩
 obtain ⟨k, rfl⟩ : ∃ k, n = k + 1 := ⟨n - 1, by omega⟩
 rw [e]; exact hN k (by omega)
def Tt {α : Type} (Q : α → Prop) (f : Nat → Option α) : Prop := ∃ r, Ev f r ∧ Q r
section
variable {α β : Type} {P : α → Prop} {Q : β → Prop}
theorem Tt.pure {r : β} (h : Q r) : Tt Q (fun _ => some r) := ⟨r, Ev.pure r, h⟩
theorem Tt.of {f : Nat → Option β} {r : β} (h : Ev f r) (hq : Q r) : Tt Q f := ⟨r, h, hq⟩
theorem Tt.all {f : Nat → Option β} {r : β} (h : ∀ n, f n = some r) (hq : Q r) : Tt Q f := ⟨r, Ev.all h, hq⟩
theorem Tt.bind {x : Nat → Option α} {g : Nat → α → Option β} (hx : Tt P x) (h : ∀ r, P r → Tt Q (fun n => g n r)) : Tt Q (fun n => (x n).bind (g n)) := by
 obtain ⟨r, h1, h2⟩ := hx
 obtain ⟨s, h3, h4⟩ := h r h2
 exact ⟨s, Ev.bind h1 h3, h4⟩
theorem Tt.evb {x : Nat → Option α} {a : α} {g : Nat → α → Option β} (hx : Ev x a) (h : Tt Q (fun n => g n a)) : Tt Q (fun n => (x n).bind (g n)) := by
 obtain ⟨s, h3, h4⟩ := h
 exact ⟨s, Ev.bind hx h3, h4⟩
theorem Tt.step {x : Option α} {g : Nat → α → Option β} {a : α} (hx : x = some a) (h : Tt Q (fun n => g n a)) : Tt Q (fun n => x.bind (g n)) := by
 subst hx; exact h
theorem Tt.bif {c : Bool} {x y : Nat → Option β} (h1 : c = true → Tt Q x) (h2 : c = false → Tt Q y) : Tt Q (fun n => bif c then x n else y n) := by
 cases c
 ·exact h2 rfl
 ·exact h1 rfl
theorem Tt.suc {f g : Nat → Option β} (e : ∀ n, f (n + 1) = g n) (h : Tt Q g) : Tt Q f := by
 obtain ⟨r, h1, h2⟩ := h
 exact ⟨r, Ev.suc e h1, h2⟩
theorem Tt.cond {c d : Bool} {g : Nat → Bool → Option β} (h : ∀ b, Tt Q (fun n => g n b)) (k : Bool) : Tt Q (fun n => (bif c then some k else some d).bind (g n)) := by
 cases c <;> exact h _
end
end Go.Proofs.YtknpjecpcmajiaaGreatDoor.Rt

namespace Go.Proofs.YtknpjecpcmajiaaGreatDoor.Lx
abbrev Bs := List UInt8
def isLetter (c : UInt8) : Bool := decide ((97 ≤ c.toNat ∧ c.toNat ≤ 122) ∨ (65 ≤ c.toNat ∧ c.toNat ≤ 90))
def isDigit (c : UInt8) : Bool := decide (48 ≤ c.toNat ∧ c.toNat ≤ 57)
def isInner (c : UInt8) : Bool := decide ((97 ≤ c.toNat ∧ c.toNat ≤ 122) ∨ (65 ≤ c.toNat ∧ c.toNat ≤ 90) ∨ (48 ≤ c.toNat ∧ c.toNat ≤ 57) ∨ c.toNat = 95)
def b9w (c : UInt8) : Bool := decide (32 ≤ c.toNat ∧ c.toNat ≤ 126)
def isBlank (c : UInt8) : Bool := decide (c.toNat = 32 ∨ c.toNat = 9 ∨ c.toNat = 10)
def isSign (c : UInt8) : Bool := [40, 41, 44, 59, 58, 61, 60, 43, 45, 42, 47, 123, 125].contains c
def spanN (p : UInt8 → Bool) : Bs → Nat
  | [] => 0
  | c :: r => bif p c then spanN p r + 1 else 0
theorem spanN_le (p : UInt8 → Bool) : ∀ l, spanN p l ≤ l.length
 | [] => by simp [spanN]
 | c :: r => by
  have := spanN_le p r
  simp only [spanN, List.length_cons]; cases p c <;> simp <;> omega
def name (l : Bs) : Bool := !l.isEmpty && isLetter (l.headD 0) && decide (l.length ≤ 20) && (spanN isInner l == l.length)
def dec (l : Bs) : Nat := l.foldl (fun n c => 10 * n + (c.toNat - 48)) 0
def maxNumber : Nat := 1099511627776
def numberOk (l : Bs) : Bool := !l.isEmpty && (spanN isDigit l == l.length) && !(l.headD 0 == 48 && !(l == [48])) && decide (l.length ≤ 13)
def number (l : Bs) : Nat × Bool := if numberOk l ∧ dec l ≤ maxNumber then (dec l, true) else (0, false)
def qloop : Bs → Bs → Nat → Option (Bs × Nat)
  | [], _, _ => none
  | c :: r, acc, n =>
    if b9w c = false then none
    else if c.toNat = 34 then some (acc, n)
    else if c.toNat = 92 then
      match r with
      | [] => none
      | d :: r' => if d.toNat = 34 ∨ d.toNat = 92 then qloop r' (acc ++ [d]) (n + 2) else none
    else qloop r (acc ++ [c]) (n + 1)
def b5g (l : Bs) : Bs × Nat :=
  match qloop (l.drop 1) [] 1 with
  | none => ([], 0)
  | some (v, n) => if v.length > 400 then ([], 0) else (v, n + 1)
def gapN : Bool → Bs → Nat
  | _, [] => 0
  | true, c :: r => if c.toNat = 10 then gapN false r + 1 else gapN true r + 1
  | false, c :: r => if isBlank c then gapN false r + 1 else if c.toNat = 35 then gapN true r + 1 else 0
end Go.Proofs.YtknpjecpcmajiaaGreatDoor.Lx

namespace Go.Proofs.YtknpjecpcmajiaaGreatDoor.Lx
open Rt M Go
def errT : Token := ⟨0, [], 0, 0⟩
def next (l : Rt.Bs) : Token × Nat × Int :=
  if isLetter (l.headD 0) then
    if name (l.take (spanN isInner l)) then (⟨0, l.take (spanN isInner l), 0, 0⟩, spanN isInner l, 0) else (errT, 0, 3)
  else if isDigit (l.headD 0) then
    if (number (l.take (spanN isDigit l))).2 then (⟨1, l.take (spanN isDigit l), (number (l.take (spanN isDigit l))).1, 0⟩, spanN isDigit l, 0) else (errT, 0, 3)
  else if (l.headD 0).toNat = 34 then
    if (b5g l).2 = 0 then (errT, 0, 2) else (⟨2, (b5g l).1, 0, 0⟩, (b5g l).2, 0)
  else if isSign (l.headD 0) then (⟨3, l.take 1, 0, 0⟩, 1, 0)
  else (errT, 0, 10)
def scanF : Nat → Rt.Bs → Nat → List Token × Nat × Int
  | 0, _, _ => ([], 0, 0)
  | f + 1, r, at_ =>
    if gapN false r = r.length then ([], 0, 0)
    else if (next (r.drop (gapN false r))).2.2 ≠ 0 then ([], at_ + gapN false r, (next (r.drop (gapN false r))).2.2)
    else if (scanF f (r.drop (gapN false r + (next (r.drop (gapN false r))).2.1)) (at_ + gapN false r + (next (r.drop (gapN false r))).2.1)).2.2 ≠ 0 then
      scanF f (r.drop (gapN false r + (next (r.drop (gapN false r))).2.1)) (at_ + gapN false r + (next (r.drop (gapN false r))).2.1)
    else ({ (next (r.drop (gapN false r))).1 with Pos := ((at_ + gapN false r : Nat) : Int) } :: (scanF f (r.drop (gapN false r + (next (r.drop (gapN false r))).2.1)) (at_ + gapN false r + (next (r.drop (gapN false r))).2.1)).1, 0, 0)
def scan (l : Rt.Bs) : List Token × Nat × Int := if l.length > 4000 then ([], 0, 6) else scanF (l.length + 1) l 0
theorem b1k {s r : Rt.Bs} {i : Nat} {c : UInt8} (h : s.drop i = c :: r) : sidx s (i : Int) = some (c.toNat : Int) := by
 have h1 : s[i]? = some c := by
  have := congrArg (·[0]?) h
  simpa using this
 simp [sidx, h1]
theorem b4t {s r : Rt.Bs} {i : Nat} {c : UInt8} (h : s.drop i = c :: r) : i + r.length + 1 = s.length := by
 have := congrArg List.length h
 simp only [List.length_drop, List.length_cons] at this
 omega
theorem b2r {s r : Rt.Bs} {i : Nat} {c : UInt8} (h : s.drop i = c :: r) : s.drop (i + 1) = r := by
 rw [← List.drop_drop, h, List.drop_one, List.tail_cons]
theorem drop_nil {s : Rt.Bs} {i : Nat} (h : s.drop i = []) (hi : i ≤ s.length) : i = s.length := by
 have := congrArg List.length h
 simp only [List.length_drop, List.length_nil] at this
 omega
theorem a6t (x : Int) (h1 : -9223372036854775808 ≤ x) (h2 : x < 9223372036854775808) : IntKind.i64.wrap x = x := by
 simp [IntKind.wrap, IntKind.signed, IntKind.bits]
 split <;> omega
theorem b6e (a b : Nat) (h : a + b < 9223372036854775808) : iadd .i64 (a : Int) (b : Int) = ((a + b : Nat) : Int) := by
 rw [iadd, a6t _ (by omega) (by omega)]; simp
theorem b0s (a : Nat) (h : a + 1 < 9223372036854775808) : iadd .i64 (a : Int) 1 = ((a + 1 : Nat) : Int) := b6e a 1 h
theorem c7y {s : Rt.Bs} (a b : Nat) (h : a ≤ b) (hb : b ≤ s.length) : ssl s (a : Int) (b : Int) = some ((s.take b).drop a) := by
 rw [ssl, if_pos (by omega)]; simp
theorem c3a {s : Rt.Bs} (a : Nat) (h : a ≤ s.length) : ssl s (a : Int) (s.length : Int) = some (s.drop a) := by
 rw [c7y a _ h (Nat.le_refl _), List.take_length]
theorem c9z {s : Rt.Bs} (b : Nat) (h : b ≤ s.length) : ssl s 0 (b : Int) = some (s.take b) := by
 have := c7y (s := s) 0 b (by omega) h
 simpa using this
theorem byte_all {p : UInt8 → Bool} (h : (List.range 256).all (fun k => p (UInt8.ofNat k)) = true) (c : UInt8) : p c = true := by
 have := List.all_eq_true.mp h c.toNat (by simpa using c.toNat_lt)
 simpa using this
theorem c6o (n : Nat) (c : UInt8) : a6y n (c.toNat : Int) = some (isBlank c) :=
 of_decide_eq_true (byte_all (p := fun c => decide (a6y 0 (c.toNat : Int) = some (isBlank c))) (by decide +kernel) c)
theorem letter_eq (n : Nat) (c : UInt8) : a7t n (c.toNat : Int) = some (isLetter c) :=
 of_decide_eq_true (byte_all (p := fun c => decide (a7t 0 (c.toNat : Int) = some (isLetter c))) (by decide +kernel) c)
theorem c2h (n : Nat) (c : UInt8) : a7b n (c.toNat : Int) = some (isDigit c) :=
 of_decide_eq_true (byte_all (p := fun c => decide (a7b 0 (c.toNat : Int) = some (isDigit c))) (by decide +kernel) c)
theorem c6e (n : Nat) (c : UInt8) : a8u n (c.toNat : Int) = some (isInner c) :=
 of_decide_eq_true (byte_all (p := fun c => decide (a8u 0 (c.toNat : Int) = some (isInner c))) (by decide +kernel) c)
theorem d2j (n : Nat) (c : UInt8) : b0a n (c.toNat : Int) = some (b9w c) :=
 of_decide_eq_true (byte_all (p := fun c => decide (b0a 0 (c.toNat : Int) = some (b9w c))) (by decide +kernel) c)
theorem d7s (c : UInt8) (h : isDigit c = true) : IntKind.i64.wrap (isub .u8 (c.toNat : Int) 48) = ((c.toNat - 48 : Nat) : Int) :=
 of_decide_eq_true (byte_all (p := fun c => decide (isDigit c = true → IntKind.i64.wrap (isub .u8 (c.toNat : Int) 48) = ((c.toNat - 48 : Nat) : Int))) (by decide +kernel) c) h
theorem toNat_inj {c d : UInt8} : ((c.toNat : Int) == (d.toNat : Int)) = (c == d) := by
 by_cases h : c = d
 ·simp [h]
 ·have : c.toNat ≠ d.toNat := fun e => h (UInt8.toNat_inj.mp e)
  rw [beq_eq_false_iff_ne.mpr h, beq_eq_false_iff_ne]; omega
theorem c3h {p : UInt8 → Bool} {f : Int → Option Bool} (hf : ∀ c : UInt8, f c.toNat = some (p c)) {s : Rt.Bs} (hs : s.length < 9223372036854775807) {n : Nat} {kont : Int → Option Int} :
  ∀ {r : Rt.Bs} {i m : Nat}, s.drop i = r → i ≤ s.length → r.length < m → a6p n s f kont m (i : Int) = kont ((i + spanN p r : Nat) : Int)
 | [], i, m + 1, h, hi, _ => by
  have := drop_nil h hi
  rw [b1m]
  simp [this, spanN]
 | c :: r, i, m + 1, h, hi, hm => by
  have h1 := b4t h
  rw [b1m, b1k h, decide_eq_true (by omega)]
  simp only [cond_true, Option.bind_some, hf]
  cases hp : p c
  ·simp [spanN, hp]
  ·rw [cond_true, b0s _ (by omega), c3h hf hs (b2r h) (by omega) (by simp only [List.length_cons] at hm; omega)]
   simp only [spanN, hp, cond_true]
   congr 2; omega
theorem b6z {p : UInt8 → Bool} {f : Int → Option Bool} (hf : ∀ c : UInt8, f c.toNat = some (p c)) {s : Rt.Bs} (hs : s.length < 9223372036854775807) {n : Nat} (hn : s.length < n) :
  a5r n s f = some ((spanN p s : Nat) : Int) := by
 have := c3h hf hs (n := n) (kont := fun nx2 => some nx2) (r := s) (i := 0) (m := n) (by simp) (by omega) hn
 simpa [a5r] using this
theorem headD_idx {s : Rt.Bs} (h : s ≠ []) : sidx s 0 = some ((s.headD 0).toNat : Int) := by
 cases s with
 | nil => exact absurd rfl h
 | cons c r => exact b1k (i := 0) rfl
theorem name_eq {s : Rt.Bs} (hs : s.length < 9223372036854775807) {n : Nat} (hn : s.length < n) : a5i n s = some (name s) := by
 cases hs0 : s with
 | nil => rfl
 | cons c r =>
  rw [← hs0]
  have h0 : s ≠ [] := by rw [hs0]; simp
  have h1 : (s == []) = false := by simp [hs0]
  simp only [a5i, h1, Bool.not_false, cond_true, headD_idx h0, Option.bind_some, letter_eq, b6z (c6e n) hs hn, name]
  have h2 : s.isEmpty = false := by simp [hs0]
  rw [h2]
  cases isLetter (s.headD 0) <;> by_cases h3 : s.length ≤ 20 <;> simp [h3]
  ·rw [decide_eq_true (by omega)]
   simp only [cond_true, Option.some.injEq]
   rw [Bool.eq_iff_iff]; simp; omega
  ·rw [decide_eq_false (by omega)]; simp
end Go.Proofs.YtknpjecpcmajiaaGreatDoor.Lx

