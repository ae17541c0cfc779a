/-
  THE MIRRORS of the fractions' and the big integers' functions, of their references and of the laws, and that each call returns what its mirror says. Printed by gen.py.
-/
import Derived.Test.YtaanocaobllohaaGreatDoorRows
import Derived.Test.YtaanocaobllohaaGreatDoorTrim
import Derived.Test.YtaanocaobllohaaGreatDoorExtC
import Derived.Test.YtaanocaobllohaaGreatDoorRtX
import Derived.Test.YtaanocaobllohaaGreatDoorMirB
namespace Go.Proofs.YtaanocaobllohaaGreatDoor.M
open Go Go.RowKit Rt
theorem u9 : Tryz.prog.underlying 9 = some .string := by kernel_rfl
def a3i (_n : Nat) (s1 : Bs) (prefixx1 : Bs) : Option Bool :=
 (bif decide ((prefixx1.length : Int) ≤ (s1.length : Int)) then
  (ssl s1 0 (prefixx1.length : Int)).bind fun t1 =>
  some (t1 == prefixx1)
 else
  some false).bind fun v1 =>
 some v1
set_option maxHeartbeats 1000000 in
set_option maxRecDepth 1000000 in
theorem a8e (n : Nat) (s1 : Bs) (prefixx1 : Bs) (r : Bool) (hm : a3i n s1 prefixx1 = some r) {w : World}  :
  Calls Tryz.prog 128 #[vs s1, vs prefixx1] w fun e w' => e = .returned (.bool r) ∧ w' = w := by
 unfold a3i at hm
 refine a0x 18 Tryz.func128 rfl rfl rfl ?_
 refine a0f (a0a (a0b rfl rfl rfl (a0c (a0d (a0f (a0a (a0e rfl rfl rfl ?_)))))))
 refine a8k u9 rfl rfl rfl ?_
 refine a0e rfl rfl rfl ?_
 refine a8k u9 rfl rfl rfl ?_
 refine a0v rfl rfl rfl rfl rfl ?_
 refine a0e rfl rfl rfl ?_
 obtain ⟨v1, hb1, hm⟩ := bind_some hm
 refine a2k 7 (fun a w' => w = w' ∧ Has 18 a [(17, .bool v1)]) ?_ ?_
 ·rintro a wx1 ⟨rfl, hax1⟩
  refine a1a hax1 ?_
  refine a0b rfl rfl rfl (a0c (a0d (a1d ?_)))
  refine a1p rfl rfl ?_
  obtain rfl := Option.some.inj hm
  exact ⟨rfl, rfl⟩
 clear hm
 rcases a0i hb1 with ⟨hb2, hb1⟩ | ⟨hb2, hb1⟩
 ·refine a1e 10 rfl hb2 ?_
  refine a0e rfl rfl rfl (a0e rfl rfl rfl ?_)
  refine a8k u9 rfl rfl rfl ?_
  obtain ⟨t1, hc1, hb1⟩ := bind_some hb1
  refine b9w u9 rfl rfl rfl rfl hc1 ?_
  refine a0e rfl rfl rfl ?_
  refine b2d rfl rfl rfl rfl rfl ?_
  refine a0m rfl rfl rfl rfl (a0c ?_)
  refine a0p (fun a ha => ?_)
  cases hb1
  exact ⟨rfl, ha.cut (l := [17]) rfl⟩
 refine a1e 10 rfl hb2 ?_
 refine a0r rfl (by decide) rfl (a0r rfl (by decide) rfl (a0r rfl (by decide) rfl (a0r rfl (by decide) rfl (a0r rfl (by decide) rfl (a0r rfl (by decide) rfl (a0l rfl rfl rfl rfl (a0c ?_)))))))
 refine a0p (fun a ha => ?_)
 cases hb1
 exact ⟨rfl, ha.cut (l := [17]) rfl⟩
theorem ent128 : Ent Tryz.prog 128 := fun _ _ => by kernel_rfl
def a3h (n : Nat) (s1 : Bs) (prefixx1 : Bs) : Option (Bs × Bool) :=
 (a3i n s1 prefixx1).bind fun v1 =>
 bif !v1 then
  some (s1, false)
 else
  (ssl s1 (prefixx1.length : Int) s1.length).bind fun t1 =>
  some (t1, true)
set_option maxHeartbeats 1000000 in
set_option maxRecDepth 1000000 in
theorem a8b (n : Nat) (s1 : Bs) (prefixx1 : Bs) (r : (Bs × Bool)) (hm : a3h n s1 prefixx1 = some r) {w : World}  :
  Calls Tryz.prog 107 #[vs s1, vs prefixx1] w fun e w' => e = .returned (.tuple #[vs r.1, .bool r.2]) ∧ w' = w := by
 unfold a3h at hm
 refine a0x 15 Tryz.func107 rfl rfl rfl ?_
 refine a0f (a0a (a0b rfl rfl rfl (a0b rfl rfl rfl (a0c (a0d (a0f (a0f (a0a (a0e rfl rfl rfl (a0e rfl rfl rfl ?_))))))))))
 obtain ⟨v1, hv1, hm⟩ := bind_some hm
 refine a4e ent128 rfl rfl rfl rfl (a8e _ _ _ _ hv1) ?_
 refine a2x rfl rfl rfl (a0c (a0d ?_))
 rcases a0i hm with ⟨hb1, hm⟩ | ⟨hb1, hm⟩
 ·refine a0u 9 rfl hb1 ?_
  refine a0z rfl (a0f (a0a (a0e rfl rfl rfl (a0b rfl rfl rfl (a0b rfl rfl rfl (a0c (a0d (a1d (a0n ?_)))))))))
  refine a1k (vl := [vs s1, .bool false]) rfl ⟨a1w rfl, a1w rfl, trivial⟩ (by simp) ?_
  obtain rfl := Option.some.inj hm
  exact ⟨rfl, rfl⟩
 refine a0u 9 rfl hb1 ?_
 refine a0s rfl (a1b (a0d (a0f (a0a (a0e rfl rfl rfl (a0e rfl rfl rfl ?_))))))
 refine a8k u9 rfl rfl rfl ?_
 obtain ⟨t1, hc1, hm⟩ := bind_some hm
 refine b7b u9 rfl rfl rfl rfl hc1 ?_
 refine a0b rfl rfl rfl (a0b rfl rfl rfl (a0c (a0d (a1d ?_))))
 refine a1k (vl := [vs t1, .bool true]) rfl ⟨a1w rfl, a1w rfl, trivial⟩ (by simp) ?_
 obtain rfl := Option.some.inj hm
 exact ⟨rfl, rfl⟩
theorem ent107 : Ent Tryz.prog 107 := fun _ _ => by kernel_rfl
def strings_CutPrefix (n : Nat) (s1 : Bs) (prefixx1 : Bs) : Option (Bs × Bool) :=
 (a3h n s1 prefixx1).bind fun v1 =>
 some (v1.1, v1.2)
set_option maxHeartbeats 1000000 in
set_option maxRecDepth 1000000 in
theorem b3v (n : Nat) (s1 : Bs) (prefixx1 : Bs) (r : (Bs × Bool)) (hm : strings_CutPrefix n s1 prefixx1 = some r) {w : World}  :
  Calls Tryz.prog 89 #[vs s1, vs prefixx1] w fun e w' => e = .returned (.tuple #[vs r.1, .bool r.2]) ∧ w' = w := by
 unfold strings_CutPrefix at hm
 refine a0x 11 Tryz.func89 rfl rfl rfl ?_
 refine a0f (a0a (a0b rfl rfl rfl (a0b rfl rfl rfl (a0c (a0d (a0f (a0a (a0e rfl rfl rfl (a0e rfl rfl rfl ?_)))))))))
 obtain ⟨v1, hv1, hm⟩ := bind_some hm
 refine a4e ent107 rfl rfl rfl rfl (a8b _ _ _ _ hv1) ?_
 refine a0j rfl rfl rfl rfl (a0j rfl rfl rfl rfl (a0b rfl rfl rfl (a0b rfl rfl rfl (a0c (a0d (a1d ?_))))))
 refine a1k (vl := [vs v1.1, .bool v1.2]) rfl ⟨a1w rfl, a1w rfl, trivial⟩ (by simp) ?_
 obtain rfl := Option.some.inj hm
 exact ⟨rfl, rfl⟩
theorem u82 : Tryz.prog.underlying 82 = some (.slice 9) := by kernel_rfl
theorem sz9 : a5w Tryz.prog 9 1 := fun _ => by kernel_rfl
theorem ag9 : b3w Tryz.prog 9 false := fun _ => by kernel_rfl
def a1m (n : Nat) (kont1 : (List Bs) → Option (List Bs)) : Nat → Int → Int → (List Bs) → Option (List Bs)
 | 0, _, _, _ => none
 | mx1 + 1, i1, j1, l1 =>
  bif decide (i1 < j1) then
   (ix l1 j1).bind fun ex1 =>
   (ix l1 i1).bind fun ex2 =>
   (ix l1 i1).bind fun _ =>
   (lset l1 i1 ex1).bind fun l3 =>
   (ix l3 j1).bind fun _ =>
   (lset l3 j1 ex2).bind fun l4 =>
   a1m n kont1 mx1 (iadd .i64 i1 1) (isub .i64 j1 1) l4
  else
   kont1 l1
theorem a7z (n : Nat) (kont1 : (List Bs) → Option (List Bs)) (mx1 : Nat) (i1 : Int) (j1 : Int) (l1 : List Bs) : a1m n kont1 (mx1 + 1) i1 j1 l1 =
  bif decide (i1 < j1) then
   (ix l1 j1).bind fun ex1 =>
   (ix l1 i1).bind fun ex2 =>
   (ix l1 i1).bind fun _ =>
   (lset l1 i1 ex1).bind fun l3 =>
   (ix l3 j1).bind fun _ =>
   (lset l3 j1 ex2).bind fun l4 =>
   a1m n kont1 mx1 (iadd .i64 i1 1) (isub .i64 j1 1) l4
  else
   kont1 l1 := rfl
def a2j (n : Nat) (s1 : (List Bs)) : Option (List Bs) :=
 a1m n (fun (l2 : List Bs) =>
  some l2) n 0 (isub .i64 (s1.length : Int) 1) s1
set_option maxHeartbeats 1000000 in
set_option maxRecDepth 1000000 in
theorem a8r (n : Nat) (s1 : (List Bs)) (r : (List Bs)) (hm : a2j n s1 = some r) {w : World} {F : Frz} (hs : Sat F w) {as1 : Option Addr} {ns1 : Nat} {cs1 : Nat} {pres1 xss1 posts1 : List Value} (hbs1 : (OE.win 9 1 as1 ns1 cs1 pres1 xss1 posts1).ok w) (hfs1 : ∀ b, (OE.win 9 1 as1 ns1 cs1 pres1 xss1 posts1).blk = some b → F b = none) (hrs1 : RowN Rp.str F ns1 xss1 s1) :
  Calls Tryz.prog 102 #[.slice as1 ns1 cs1] w fun e w' => ∃ v F' xs' O', e = .returned v ∧ HS F w (blks (OE.win 9 1 as1 ns1 cs1 pres1 xss1 posts1)) F' (.win 9 1 as1 ns1 cs1 pres1 xs' posts1 :: O') w' ∧ (v = .tuple #[] ∧ O' = [] ∧ RowN Rp.str F' ns1 xs' r) := by
 unfold a2j at hm
 have h := HS.lendE hs hbs1 hfs1
 refine a0x 28 Tryz.func102 rfl rfl rfl ?_
 refine a0f (a0a (a0e rfl rfl rfl ?_))
 refine a1z hrs1.len u82 rfl rfl rfl ?_
 refine a0v rfl rfl rfl rfl rfl ?_
 refine a0b rfl rfl rfl (a0b rfl rfl rfl (a0c (a0d (a1i ?_))))
 intro a hax7
 obtain ⟨kont1, hkont1⟩ : ∃ kont1 : (List Bs) → Option (List Bs), kont1 = (fun (l2 : List Bs) =>
       some l2) := ⟨_, rfl⟩
 replace hm : (fun m (s : Int × Int × List Bs) => a1m n kont1 m s.1 s.2.1 s.2.2) n (0, (isub .i64 (s1.length : Int) 1), s1) = some r := by rw [hkont1]; exact hm
 refine a5u (id := 0) (fun m (s : Int × Int × List Bs) => a1m n kont1 m s.1 s.2.1 s.2.2) (fun (y : List Bs) => kont1 y) r (fun (s : Int × Int × List Bs) a w' => ∃ (Fx1 : Frz) (xss2 : List Value), Frz.le F Fx1 ∧ HS F w (blks (OE.win 9 1 as1 ns1 cs1 pres1 xss1 posts1)) Fx1 [.win 9 1 as1 ns1 cs1 pres1 xss2 posts1] w' ∧ (RowN Rp.str Fx1 ns1 xss2 s.2.2) ∧ Has 28 a [(0, .slice as1 ns1 cs1), (2, .int .i64 s.1), (3, .int .i64 s.2.1)]) (fun (y : List Bs) a w' => ∃ (Fx2 : Frz) (xss3 : List Value), Frz.le F Fx2 ∧ HS F w (blks (OE.win 9 1 as1 ns1 cs1 pres1 xss1 posts1)) Fx2 [.win 9 1 as1 ns1 cs1 pres1 xss3 posts1] w' ∧ (RowN Rp.str Fx2 ns1 xss3 y) ∧ Has 28 a []) (fun _ => rfl) ?_ ?_ hm ⟨_, xss1, Frz.refl _, h.pick [0] (by decide) rfl, hrs1, hax7.cut (l := [0, 2, 3]) rfl⟩
 ·clear hm; rintro l2 a wx1 hm ⟨Fx2, xss3, hF2, hx2, hs3, hax1⟩
  rw [hkont1] at hm
  replace hm := hm
  refine a2d (e := .exit 0) hax1 ?_
  refine a1j ?_
  refine d0b rfl ?_
  obtain rfl := Option.some.inj hm
  exact ⟨_, _, _, _, rfl, hx2.pick [0] (by decide) rfl, rfl, rfl, hs3⟩
 clear hm hkont1; intro hk1 mx1 K ihx1
 rintro ⟨i1, j1, l1⟩ a wx2 hm ⟨Fx1, xss2, hF1, hx1, hs2, hax2⟩
 simp only [a7z] at hm
 refine a1l hax2 ?_
 refine a0f (a0f (a0a (a0e rfl rfl rfl (a0e rfl rfl rfl ?_))))
 refine a0v rfl rfl rfl rfl rfl ?_
 refine a0c (a0d ?_)
 rcases a0i hm with ⟨hb1, hm⟩ | ⟨hb1, hm⟩
 ·refine a0u 9 rfl hb1 ?_
  refine a0z rfl (a1b (a0d (a0f (a1i ?_))))
  refine a2m (SH Fx1 []) 16 rfl (by kernel_rfl) hx1 ?_
  intro wx3 hx3
  refine d_tk 0 rfl (by kernel_rfl) rfl rfl rfl rfl (hx3.sh (Frz.refl _) [] (by decide) rfl) (fun _ _ _ _ _ => a0e rfl rfl rfl (a0c (qq rfl))) ?_
  refine d_tk 1 rfl (by kernel_rfl) rfl rfl rfl rfl (hx3.sh (Frz.refl _) [] (by decide) rfl) (fun _ _ _ _ _ => a0e rfl rfl rfl (a0c (qq rfl))) ?_
  refine d_tk 2 rfl (by kernel_rfl) rfl rfl rfl rfl (hx3.sh (Frz.refl _) [] (by decide) rfl) (fun _ _ _ _ _ => a0e rfl rfl rfl (a0c (qq rfl))) ?_
  refine d_tk 3 rfl (by kernel_rfl) rfl rfl rfl rfl (hx3.sh (Frz.refl _) [] (by decide) rfl) (fun _ _ _ _ _ => a0e rfl rfl rfl (a0c (qq rfl))) ?_
  refine d_tk 4 rfl (by kernel_rfl) rfl rfl rfl rfl (hx3.sh (Frz.refl _) [] (by decide) rfl) (fun _ _ _ _ _ => a0e rfl rfl rfl (a0c (qq rfl))) ?_
  refine d_tk 5 rfl (by kernel_rfl) rfl rfl rfl rfl (hx3.sh (Frz.refl _) [] (by decide) rfl) (fun _ _ _ _ _ => a0e rfl rfl rfl (a0c (qq rfl))) ?_
  obtain ⟨ex1, he1, hm⟩ := bind_some hm
  obtain ⟨b1, o1, cs1, hax3, ho1, hr1, hp1, hrun1⟩ := a7j (P := Tryz.prog) (r := Rp.str) u82 sz9 hx3 (p := 0) rfl rfl hs2 he1
  have hc1 : cs1 = [vs ex1] := hr1
  subst hc1
  refine b3r 6 rfl (by kernel_rfl) (by kernel_rfl) (by kernel_rfl) rfl rfl rfl rfl hrun1 (hx3.sh (Frz.refl _) [] (by decide) rfl) ?_
  refine d_tk 8 rfl (by kernel_rfl) rfl rfl rfl rfl (hx3.sh (Frz.refl _) [] (by decide) rfl) (fun _ _ _ _ _ => a0e rfl rfl rfl (a0c (qq rfl))) ?_
  refine d_tk 9 rfl (by kernel_rfl) rfl rfl rfl rfl (hx3.sh (Frz.refl _) [] (by decide) rfl) (fun _ _ _ _ _ => a0e rfl rfl rfl (a0c (qq rfl))) ?_
  obtain ⟨ex2, he2, hm⟩ := bind_some hm
  obtain ⟨b2, o2, cs2, hax4, ho2, hr2, hp2, hrun2⟩ := a7j (P := Tryz.prog) (r := Rp.str) u82 sz9 hx3 (p := 0) rfl rfl hs2 he2
  have hc2 : cs2 = [vs ex2] := hr2
  subst hc2
  refine b3r 10 rfl (by kernel_rfl) (by kernel_rfl) (by kernel_rfl) rfl rfl rfl rfl hrun2 (hx3.sh (Frz.refl _) [] (by decide) rfl) ?_
  refine b8r 7 11 rfl rfl (by kernel_rfl) ?_ ?_
  ·refine a6z (j := 0) ag9 rfl rfl hx3 rfl (p := 0) rfl rfl hax3 ho1 hp1 rfl ?_
   refine a0w (hx3.sh (Frz.refl _) [] (by decide) rfl) ?_
   refine a1c 11 rfl (by kernel_rfl) ?_
   refine a6z (j := 0) ag9 rfl rfl hx3 rfl (p := 0) rfl rfl hax4 ho2 hp2 rfl ?_
   refine a0w (hx3.sh (Frz.refl _) [] (by decide) rfl) ?_
   obtain ⟨ex3, he3, hm⟩ := bind_some hm
   obtain ⟨b3, o3, cs3, hax5, ho3, hr3, hp3, hrun3⟩ := a7j (P := Tryz.prog) (r := Rp.str) u82 sz9 hx3 (p := 0) rfl rfl hs2 he3
   have hc3 : cs3 = [vs ex3] := hr3
   subst hc3
   refine b3r 12 rfl (by kernel_rfl) (by kernel_rfl) (by kernel_rfl) rfl rfl rfl rfl hrun3 (hx3.sh (Frz.refl _) [] (by decide) rfl) ?_
   refine a1c 13 rfl (by kernel_rfl) ?_
   obtain ⟨l3, hl1, hm⟩ := bind_some hm
   refine a4r (r := Rp.str) sz9 rfl hx3 rfl rfl rfl rfl rfl (p := 0) rfl rfl hax5 ho3 hs2 rfl rfl hl1 ?_
   intro wx4 xs1 hx4 hr4
   refine a0w (hx4.sh (Frz.refl _) [] (by decide) rfl) ?_
   obtain ⟨ex4, he4, hm⟩ := bind_some hm
   obtain ⟨b4, o4, cs4, hax6, ho4, hr5, hp4, hrun4⟩ := a7j (P := Tryz.prog) (r := Rp.str) u82 sz9 hx4 (p := 0) rfl rfl hr4 he4
   have hc4 : cs4 = [vs ex4] := hr5
   subst hc4
   refine b3r 14 rfl (by kernel_rfl) (by kernel_rfl) (by kernel_rfl) rfl rfl rfl rfl hrun4 (hx4.sh (Frz.refl _) [] (by decide) rfl) ?_
   refine a1c 15 rfl (by kernel_rfl) ?_
   obtain ⟨l4, hl2, hm⟩ := bind_some hm
   refine a4r (r := Rp.str) sz9 rfl hx4 rfl rfl rfl rfl rfl (p := 0) rfl rfl hax6 ho4 hr4 rfl rfl hl2 ?_
   intro wx5 xs2 hx5 hr6
   refine a0w (hx5.sh (Frz.refl _) [] (by decide) rfl) ?_
   refine a3v (by kernel_rfl) ?_
   refine a2a (a0d (a0a (a0e rfl rfl rfl ?_)))
   refine a0v rfl rfl rfl rfl rfl ?_
   refine a0e rfl rfl rfl ?_
   refine a0v rfl rfl rfl rfl rfl ?_
   refine a0b rfl rfl rfl (a0b rfl rfl rfl (a0c ?_))
   refine a0p (fun a ha => ihx1 ((iadd .i64 i1 1), (isub .i64 j1 1), l4) a _ hm ?_)
   exact ⟨_, xs2, hF1, hx5.pick [0] (by decide) rfl, hr6, ha.cut (l := [0, 2, 3]) rfl⟩
  refine a6z (j := 0) ag9 rfl rfl hx3 rfl (p := 0) rfl rfl hax4 ho2 hp2 rfl ?_
  refine a0w (hx3.sh (Frz.refl _) [] (by decide) rfl) ?_
  refine a1c 7 rfl (by kernel_rfl) ?_
  refine a6z (j := 0) ag9 rfl rfl hx3 rfl (p := 0) rfl rfl hax3 ho1 hp1 rfl ?_
  refine a0w (hx3.sh (Frz.refl _) [] (by decide) rfl) ?_
  obtain ⟨ex3, he3, hm⟩ := bind_some hm
  obtain ⟨b3, o3, cs3, hax5, ho3, hr3, hp3, hrun3⟩ := a7j (P := Tryz.prog) (r := Rp.str) u82 sz9 hx3 (p := 0) rfl rfl hs2 he3
  have hc3 : cs3 = [vs ex3] := hr3
  subst hc3
  refine b3r 12 rfl (by kernel_rfl) (by kernel_rfl) (by kernel_rfl) rfl rfl rfl rfl hrun3 (hx3.sh (Frz.refl _) [] (by decide) rfl) ?_
  refine a1c 13 rfl (by kernel_rfl) ?_
  obtain ⟨l3, hl1, hm⟩ := bind_some hm
  refine a4r (r := Rp.str) sz9 rfl hx3 rfl rfl rfl rfl rfl (p := 0) rfl rfl hax5 ho3 hs2 rfl rfl hl1 ?_
  intro wx4 xs1 hx4 hr4
  refine a0w (hx4.sh (Frz.refl _) [] (by decide) rfl) ?_
  obtain ⟨ex4, he4, hm⟩ := bind_some hm
  obtain ⟨b4, o4, cs4, hax6, ho4, hr5, hp4, hrun4⟩ := a7j (P := Tryz.prog) (r := Rp.str) u82 sz9 hx4 (p := 0) rfl rfl hr4 he4
  have hc4 : cs4 = [vs ex4] := hr5
  subst hc4
  refine b3r 14 rfl (by kernel_rfl) (by kernel_rfl) (by kernel_rfl) rfl rfl rfl rfl hrun4 (hx4.sh (Frz.refl _) [] (by decide) rfl) ?_
  refine a1c 15 rfl (by kernel_rfl) ?_
  obtain ⟨l4, hl2, hm⟩ := bind_some hm
  refine a4r (r := Rp.str) sz9 rfl hx4 rfl rfl rfl rfl rfl (p := 0) rfl rfl hax6 ho4 hr4 rfl rfl hl2 ?_
  intro wx5 xs2 hx5 hr6
  refine a0w (hx5.sh (Frz.refl _) [] (by decide) rfl) ?_
  refine a3v (by kernel_rfl) ?_
  refine a2a (a0d (a0a (a0e rfl rfl rfl ?_)))
  refine a0v rfl rfl rfl rfl rfl ?_
  refine a0e rfl rfl rfl ?_
  refine a0v rfl rfl rfl rfl rfl ?_
  refine a0b rfl rfl rfl (a0b rfl rfl rfl (a0c ?_))
  refine a0p (fun a ha => ihx1 ((iadd .i64 i1 1), (isub .i64 j1 1), l4) a _ hm ?_)
  exact ⟨_, xs2, hF1, hx5.pick [0] (by decide) rfl, hr6, ha.cut (l := [0, 2, 3]) rfl⟩
 refine a0u 9 rfl hb1 ?_
 refine a0s rfl (a3l (a0q (a0q ?_)))
 refine fun a ha => hk1 l1 a _ hm ?_
 exact ⟨_, xss2, hF1, hx1.pick [0] (by decide) rfl, hs2, ha.cut (l := []) rfl⟩
theorem ent102 : Ent Tryz.prog 102 := fun _ _ => by kernel_rfl
theorem ent103 : Ent Tryz.prog 103 := fun _ _ => by kernel_rfl
theorem ent100 : Ent Tryz.prog 100 := fun _ _ => by kernel_rfl
theorem ap82 : AppIs Tryz.prog 82 9 1 16 := AppIs.of (z := vs []) (by kernel_rfl) (by kernel_rfl) rfl (by decide) (by decide)
theorem ent101 : Ent Tryz.prog 101 := fun _ _ => by kernel_rfl
def a6c (n : Nat) (kont1 : (List Bs) → Option Bs) : Nat → (List Int) → (List Bs) → Option Bs
 | 0, _, _ => none
 | mx1 + 1, l1, l2 =>
  bif decide (0 < (l1.length : Int)) then
   (a5s n l1 100000).bind fun v4 =>
   (strconv_Itoa n v4.2).bind fun v5 =>
   (bif decide (0 < (v4.1.length : Int)) then
    (strings_Repeat n [48] (isub .i64 5 (v5.length : Int))).bind fun v6 =>
    (scat v6 v5).bind fun t2 =>
    some t2
   else
    some v5).bind fun s6 =>
   (app 16 l2 [s6]).bind fun l4 =>
   a6c n kont1 mx1 v4.1 l4
  else
   kont1 l2
theorem b5c (n : Nat) (kont1 : (List Bs) → Option Bs) (mx1 : Nat) (l1 : (List Int)) (l2 : List Bs) : a6c n kont1 (mx1 + 1) l1 l2 =
  bif decide (0 < (l1.length : Int)) then
   (a5s n l1 100000).bind fun v4 =>
   (strconv_Itoa n v4.2).bind fun v5 =>
   (bif decide (0 < (v4.1.length : Int)) then
    (strings_Repeat n [48] (isub .i64 5 (v5.length : Int))).bind fun v6 =>
    (scat v6 v5).bind fun t2 =>
    some t2
   else
    some v5).bind fun s6 =>
   (app 16 l2 [s6]).bind fun l4 =>
   a6c n kont1 mx1 v4.1 l4
  else
   kont1 l2 := rfl
def b3u (n : Nat) (ax1 : Big) : Option Bs :=
 (a3a n ax1).bind fun v1 =>
 bif !v1 then
  some []
 else
  a6c n (fun (l3 : List Bs) =>
   (a2j n l3).bind fun v2 =>
   (strings_Join n v2 []).bind fun v3 =>
   bif ax1.Sign == 0 then
    some [48]
   else
    bif ax1.Sign == (-1) then
     (scat [45] v3).bind fun t1 =>
     some t1
    else
     some v3) n ax1.Digits ([] : List Bs)
set_option maxHeartbeats 1000000 in
set_option maxRecDepth 1000000 in
theorem b7q (n : Nat) (ax1 : Big) (r : Bs) (hm : b3u n ax1 = some r) {w : World} {F : Frz} (hs : Sat F w) {as1 : Option Addr} {ns1 : Nat} {cs1 : Nat} (hs1 : SlR (Rp.int .i64) F as1 ns1 cs1 ax1.Digits) (hg3 : FX F 3 (Lib.pow10Tab.map (Value.int .u64))) :
  Calls Tryz.prog 73 #[.agg #[.int .i64 ax1.Sign, .slice as1 ns1 cs1]] w fun e w' => ∃ v F' O', e = .returned v ∧ HS F w [] F' O' w' ∧ (v = vs r ∧ O' = []) := by
 unfold b3u at hm
 have h := HS.init hs
 refine a0x 51 Tryz.func73 rfl rfl rfl ?_
 refine a0f (a0a ?_)
 refine a2o rfl rfl rfl rfl h ?_
 intro b1 wx1 hx1
 refine a0b rfl rfl rfl (a0c (a0d (a0f (a0f (a0a ?_)))))
 refine a0k ag24 sz24 rfl rfl hx1 rfl (i := 0) rfl rfl ?_
 obtain ⟨v1, hv1, hm⟩ := bind_some hm
 refine a0g ent60 rfl rfl rfl rfl hx1 (a2s _ _ _ hv1 hx1.sat hs1) ?_
 rintro _ Fx1 _ wx2 hF1 hx2 ⟨rfl, rfl⟩
 refine a2x rfl rfl rfl (a0c (a0d ?_))
 rcases a0i hm with ⟨hb1, hm⟩ | ⟨hb1, hm⟩
 ·refine a0u 11 rfl hb1 ?_
  refine a0z rfl (a0f (a0a (a0b rfl rfl rfl (a0c (a0d (a1d (a0n ?_)))))))
  refine a1p rfl rfl ?_
  obtain rfl := Option.some.inj hm
  exact ⟨_, _, _, rfl, hx2.pick [] (by decide) rfl, rfl, rfl⟩
 refine a0u 11 rfl hb1 ?_
 refine a0s rfl (a1b (a0d (a0f (a0a (a0b rfl rfl rfl (a0c (a0d (a0f (a0f (a0a ?_))))))))))
 refine a0h fa24_1 rfl rfl rfl ?_
 refine a0t ag22 rfl rfl hx2 rfl (i := 0) rfl rfl ?_
 refine a0b rfl rfl rfl (a0c (a0d (a1i ?_)))
 have hx3 := hx2.nilRow 9 1
 intro a hax4
 obtain ⟨kont1, hkont1⟩ : ∃ kont1 : (List Bs) → Option Bs, kont1 = (fun (l3 : List Bs) =>
      (a2j n l3).bind fun v2 =>
      (strings_Join n v2 []).bind fun v3 =>
      bif ax1.Sign == 0 then
       some [48]
      else
       bif ax1.Sign == (-1) then
        (scat [45] v3).bind fun t1 =>
        some t1
       else
        some v3) := ⟨_, rfl⟩
 replace hm : (fun m (s : (List Int) × List Bs) => a6c n kont1 m s.1 s.2) n (ax1.Digits, ([] : List Bs)) = some r := by rw [hkont1]; exact hm
 refine a5u (id := 0) (fun m (s : (List Int) × List Bs) => a6c n kont1 m s.1 s.2) (fun (y : List Bs) => kont1 y) r (fun (s : (List Int) × List Bs) a w' => ∃ (Fx2 : Frz) (as2 : Option Addr) (ns2 : Nat) (cs2 : Nat) (as3 : Option Addr) (ns3 : Nat) (cs3 : Nat) (xss3 : List Value), Frz.le Fx1 Fx2 ∧ HS F w [] Fx2 [.row 9 1 as3 ns3 cs3 xss3, .box b1 24 [.int .i64 ax1.Sign, .slice as1 ns1 cs1]] w' ∧ (SlR (Rp.int .i64) Fx2 as2 ns2 cs2 s.1) ∧ (RowN Rp.str Fx2 ns3 xss3 s.2) ∧ Has 51 a [(1, .pointer (some ⟨b1, 0, none⟩)), (3, .slice as3 ns3 cs3), (4, .slice as2 ns2 cs2)]) (fun (y : List Bs) a w' => ∃ (Fx3 : Frz) (as4 : Option Addr) (ns4 : Nat) (cs4 : Nat) (xss4 : List Value), Frz.le Fx1 Fx3 ∧ HS F w [] Fx3 [.row 9 1 as4 ns4 cs4 xss4, .box b1 24 [.int .i64 ax1.Sign, .slice as1 ns1 cs1]] w' ∧ (RowN Rp.str Fx3 ns4 xss4 y) ∧ Has 51 a [(1, .pointer (some ⟨b1, 0, none⟩)), (3, .slice as4 ns4 cs4)]) (fun _ => rfl) ?_ ?_ hm ⟨_, as1, ns1, cs1, none, 0, 0, [], Frz.refl _, hx3.pick [0, 1] (by decide) rfl, (hs1.mono hF1), ((show RowN Rp.str _ 0 [] [] from ⟨rfl, rfl⟩)), hax4.cut (l := [1, 3, 4]) rfl⟩
 ·clear hm; rintro l3 a wx3 hm ⟨Fx3, as4, ns4, cs4, xss4, hF3, hx5, hs4, hax1⟩
  rw [hkont1] at hm
  replace hm := hm
  refine a2d (e := .exit 0) hax1 ?_
  refine a1j (a0d (a0f (a0a (a0e rfl rfl rfl ?_))))
  obtain ⟨v2, hv2, hm⟩ := bind_some hm
  refine c6h (r := Rp.str) ent102 rfl rfl rfl rfl hx5 (p := 0) rfl rfl hs4 (fun pre1 mid1 post1 hw1 hwf1 hwr1 => a8r _ _ _ hv2 hx5.sat hw1 hwf1 hwr1) ?_
  rintro _ Fx4 _ _ wx4 xs1 hF4 hx6 hxx1 ⟨rfl, rfl, hr1⟩
  refine a0c (a0d (a0f (a0a (a0e rfl rfl rfl ?_))))
  obtain ⟨Fx5, hF5, hx7, hsx1⟩ := a1g hx6 (i := 0) rfl ((hxx1 _ hr1))
  obtain ⟨v3, hv3, hm⟩ := bind_some hm
  refine a0g ent103 rfl rfl rfl rfl hx7 (b8f _ _ _ _ hv3 hx7.sat hsx1) ?_
  rintro _ Fx6 _ wx5 hF6 hx8 ⟨rfl, rfl⟩
  refine a0b rfl rfl rfl (a0c (a0d (a0f (a0f (a0a ?_)))))
  refine a0h fa24_0 rfl rfl rfl ?_
  refine a0t ag3 rfl rfl hx8 rfl (i := 0) rfl rfl ?_
  refine a0c (a0d (a1i (a0f (a0a ?_))))
  refine a0v rfl rfl rfl rfl rfl ?_
  refine a0b rfl rfl rfl (a0c (a0d ?_))
  rcases a0i hm with ⟨hb2, hm⟩ | ⟨hb2, hm⟩
  ·refine a0u 44 rfl hb2 ?_
   refine a0z rfl (a0f (a0a (a0b rfl rfl rfl (a0c (a0d (a1d (a1n (a0n ?_))))))))
   refine a1p rfl rfl ?_
   obtain rfl := Option.some.inj hm
   exact ⟨_, _, _, rfl, hx8.pick [] (by decide) rfl, rfl, rfl⟩
  refine a0u 44 rfl hb2 ?_
  refine a0s rfl (a0f (a0a ?_))
  refine a0v rfl rfl rfl rfl rfl ?_
  refine a0b rfl rfl rfl (a0c (a0d ?_))
  rcases a0i hm with ⟨hb3, hm⟩ | ⟨hb3, hm⟩
  ·refine a0u 46 rfl hb3 ?_
   refine a0z rfl (a0f (a0a (a0e rfl rfl rfl ?_)))
   obtain ⟨t1, hq1, hm⟩ := bind_some hm
   refine c1k rfl rfl rfl rfl hq1 ?_
   refine a0b rfl rfl rfl (a0c (a0d (a1d (a1n (a0n ?_)))))
   refine a1p rfl rfl ?_
   obtain rfl := Option.some.inj hm
   exact ⟨_, _, _, rfl, hx8.pick [] (by decide) rfl, rfl, rfl⟩
  refine a0u 46 rfl hb3 ?_
  refine a0s rfl (a1b (a2a (a0d (a0f (a0a (a0e rfl rfl rfl (a0b rfl rfl rfl (a0c (a0d (a1d ?_))))))))))
  refine a1p rfl rfl ?_
  obtain rfl := Option.some.inj hm
  exact ⟨_, _, _, rfl, hx8.pick [] (by decide) rfl, rfl, rfl⟩
 clear hm hkont1; intro hk1 mx1 K ihx1
 rintro ⟨l1, l2⟩ a wx6 hm ⟨Fx2, as2, ns2, cs2, as3, ns3, cs3, xss3, hF2, hx4, hs2, hs3, hax2⟩
 simp only [b5c] at hm
 refine a1l hax2 ?_
 refine a0f (a0f (a0a (a0e rfl rfl rfl ?_)))
 refine a1z hs2.len u22 rfl rfl rfl ?_
 refine a0v rfl rfl rfl rfl rfl ?_
 refine a0c (a0d ?_)
 rcases a0i hm with ⟨hb4, hm⟩ | ⟨hb4, hm⟩
 ·refine a0u 16 rfl hb4 ?_
  refine a0z rfl (a1b (a0d (a1i (a0f (a0a (a0e rfl rfl rfl ?_))))))
  obtain ⟨v4, hv4, hm⟩ := bind_some hm
  refine a0g ent99 rfl rfl rfl rfl hx4 (b2n _ _ _ _ hv4 hx4.sat hs2) ?_
  rintro _ Fx7 _ wx7 hF7 hx9 ⟨as5, ns5, cs5, xss5, rfl, rfl, hs5⟩
  refine a0e rfl rfl rfl (a0j rfl rfl rfl rfl (a0j rfl rfl rfl rfl (a0b rfl rfl rfl (a0b rfl rfl rfl (a0c (a0d (a0f (a0a (a0e rfl rfl rfl ?_)))))))))
  obtain ⟨v5, hv5, hm⟩ := bind_some hm
  refine a0g ent100 rfl rfl rfl rfl hx9 (b7t _ _ _ hv5 hx9.sat (((hg3.mono hF1).mono hF2).mono hF7)) ?_
  rintro _ Fx8 _ wx8 hF8 hx10 ⟨rfl, rfl⟩
  refine a0b rfl rfl rfl (a0c (a0d (a0f (a0f (a0a (a0e rfl rfl rfl ?_))))))
  refine a1z hs5.len u22 rfl rfl rfl ?_
  refine a0v rfl rfl rfl rfl rfl ?_
  refine a0c (a0d ?_)
  obtain ⟨s6, hb5, hm⟩ := bind_some hm
  refine b0q (fun a w' => ∃ (Fx9 : Frz), Frz.le Fx8 Fx9 ∧ HS F w [] Fx9 [.row 3 1 as5 ns5 cs5 xss5, .row 9 1 as3 ns3 cs3 xss3, .box b1 24 [.int .i64 ax1.Sign, .slice as1 ns1 cs1]] w' ∧ Has 51 a [(1, .pointer (some ⟨b1, 0, none⟩)), (3, .slice as3 ns3 cs3), (5, .slice as5 ns5 cs5), (7, vs s6)]) ?_ ?_
  ·rintro a wx9 ⟨Fx9, hF9, hx11, hax3⟩
   refine a1l hax3 ?_
   refine a0a (a0e rfl rfl rfl (a0e rfl rfl rfl ?_))
   refine a1x (e := 9) (cs := [vs s6]) (q := 1) rfl rfl hx11 rfl (fun _ => by kernel_rfl) rfl rfl ?_
   intro b2 wx10 hx12
   obtain ⟨l4, hr2, hm⟩ := bind_some hm
   refine a9q (r := Rp.str) ap82 rfl rfl hx12 rfl rfl (i := 2) (j := 0) rfl rfl (((hs3.mono hF7).mono hF8).mono hF9) ((show RowN Rp.str Fx9 1 [vs s6] [s6] from ⟨rfl, ⟨_, _, rfl, rfl, (rfl : RowR Rp.str _ [] [])⟩⟩)) hr2 ?_
   intro as7 cs7 wx11 hx13 hs7
   refine a0e rfl rfl rfl (a0b rfl rfl rfl (a0b rfl rfl rfl (a0c (a2a ?_))))
   obtain ⟨Fx10, hF10, hx14, hsx2⟩ := a1g hx13 (i := 1) rfl ((hs5.mono hF8).mono hF9)
   refine a0p (fun a ha => ihx1 (v4.1, l4) a _ hm ?_)
   exact ⟨_, as5, ns5, cs5, as7, (ns3 + 1), cs7, (xss3 ++ [vs s6]), ((((hF2.trans hF7).trans hF8).trans hF9).trans hF10), hx14.pick [1, 2] (by decide) rfl, hsx2, (hs7.mono hF10), ha.cut (l := [1, 3, 4]) rfl⟩
  clear hm
  rcases a0i hb5 with ⟨hb6, hb5⟩ | ⟨hb6, hb5⟩
  ·refine a0u 26 rfl hb6 ?_
   refine a0z rfl (a0a (a0e rfl rfl rfl ?_))
   refine a8k u9 rfl rfl rfl ?_
   refine a0v rfl rfl rfl rfl rfl ?_
   obtain ⟨v6, hv6, hb5⟩ := bind_some hb5
   refine a0g ent101 rfl rfl rfl rfl hx10 (b5k _ _ _ _ hv6 hx10.sat) ?_
   rintro _ Fx11 _ wx12 hF11 hx15 ⟨rfl, rfl⟩
   refine a0e rfl rfl rfl ?_
   obtain ⟨t2, hq2, hb5⟩ := bind_some hb5
   refine c1k rfl rfl rfl rfl hq2 ?_
   refine a0b rfl rfl rfl (a0c ?_)
   refine a0p (fun a ha => ?_)
   cases hb5
   exact ⟨_, hF11, hx15.pick [0, 1, 2] (by decide) rfl, ha.cut (l := [1, 3, 5, 7]) rfl⟩
  refine a0u 26 rfl hb6 ?_
  refine a0s rfl (a1b ?_)
  refine a0p (fun a ha => ?_)
  cases hb5
  exact ⟨_, Frz.refl _, hx10.pick [0, 1, 2] (by decide) rfl, ha.cut (l := [1, 3, 5, 7]) rfl⟩
 refine a0u 16 rfl hb4 ?_
 refine a0s rfl (a3l (a0q (a0q ?_)))
 refine fun a ha => hk1 l2 a _ hm ?_
 exact ⟨_, as3, ns3, cs3, xss3, hF2, hx4.pick [0, 1] (by decide) rfl, hs3, ha.cut (l := [1, 3]) rfl⟩
theorem ent89 : Ent Tryz.prog 89 := fun _ _ => by kernel_rfl
theorem u76 : Tryz.prog.underlying 76 = some (.slice 5) := by kernel_rfl
theorem u5 : Tryz.prog.underlying 5 = some (.int .u8) := by kernel_rfl
theorem sz5 : a5w Tryz.prog 5 1 := fun _ => by kernel_rfl
theorem ag5 : b3w Tryz.prog 5 false := fun _ => by kernel_rfl
theorem ent90 : Ent Tryz.prog 90 := fun _ _ => by kernel_rfl
def a6g (n : Nat) (l1 : List Int) (kont1 : (List Int) → Option (Big × Int)) : Nat → (List Int) → Int → Option (Big × Int)
 | 0, _, _ => none
 | mx1 + 1, l2, i1 =>
  bif decide (i1 < (l1.length : Int)) then
   (ix l1 i1).bind fun ex1 =>
   (a8o n l2 [10]).bind fun v6 =>
   (a2u n [IntKind.i64.wrap (isub .u8 ex1 48)]).bind fun v7 =>
   (b1j n v6 v7).bind fun v8 =>
   a6g n l1 kont1 mx1 v8 (iadd .i64 i1 1)
  else
   kont1 l2
theorem b2b (n : Nat) (l1 : List Int) (kont1 : (List Int) → Option (Big × Int)) (mx1 : Nat) (l2 : (List Int)) (i1 : Int) : a6g n l1 kont1 (mx1 + 1) l2 i1 =
  bif decide (i1 < (l1.length : Int)) then
   (ix l1 i1).bind fun ex1 =>
   (a8o n l2 [10]).bind fun v6 =>
   (a2u n [IntKind.i64.wrap (isub .u8 ex1 48)]).bind fun v7 =>
   (b1j n v6 v7).bind fun v8 =>
   a6g n l1 kont1 mx1 v8 (iadd .i64 i1 1)
  else
   kont1 l2 := rfl
def a6m (n : Nat) (s1 : Bs) : Option (Big × Int) :=
 (strings_CutPrefix n s1 [45]).bind fun v1 =>
 bif s1 == [48] then
  some ((⟨0, []⟩ : Big), 0)
 else
  (bif v1.1 == [] then
   some true
  else
   (sidx v1.1 0).bind fun c1 =>
   some (c1 == 48)).bind fun v2 =>
  (bif v2 then
   some true
  else
   (a7v n v1.1 [48, 49, 50, 51, 52, 53, 54, 55, 56, 57]).bind fun v9 =>
   some (!(v9 == []))).bind fun v3 =>
  bif v3 then
   some ((⟨0, []⟩ : Big), 2)
  else
   (b2y v1.1).bind fun l1 =>
   a6g n l1 (fun (l3 : (List Int)) =>
    bif v1.2 then
     (a1y n (-1) l3).bind fun v4 =>
     some (v4, 0)
    else
     (a1y n 1 l3).bind fun v5 =>
     some (v5, 0)) n [] 0
set_option maxHeartbeats 1000000 in
set_option maxRecDepth 1000000 in
theorem b6w (n : Nat) (s1 : Bs) (r : (Big × Int)) (hm : a6m n s1 = some r) {w : World} {F : Frz} (hs : Sat F w)  :
  Calls Tryz.prog 58 #[vs s1] w fun e w' => ∃ v F' O', e = .returned v ∧ HS F w [] F' O' w' ∧ (∃ (a0_1 : Option Addr) (n0_1 : Nat) (c0_1 : Nat), v = .tuple #[.agg #[.int .i64 r.1.Sign, .slice a0_1 n0_1 c0_1], .int .i64 r.2] ∧ O' = [] ∧ SlR (Rp.int .i64) F' a0_1 n0_1 c0_1 r.1.Digits) := by
 unfold a6m at hm
 have h := HS.init hs
 refine a0x 52 Tryz.func58 rfl rfl rfl ?_
 refine a0f (a0a ?_)
 refine a0y ze24 rfl rfl rfl h ?_
 intro b1 wx1 hx1
 refine a0b rfl rfl rfl (a0c (a0d (a0f (a0a (a0e rfl rfl rfl ?_)))))
 obtain ⟨v1, hv1, hm⟩ := bind_some hm
 refine a4e ent89 rfl rfl rfl rfl (b3v _ _ _ _ hv1) ?_
 refine a0e rfl rfl rfl (a0j rfl rfl rfl rfl (a0j rfl rfl rfl rfl (a0b rfl rfl rfl (a0b rfl rfl rfl (a0c (a0d (a0f (a0f (a0a (a0e rfl rfl rfl ?_))))))))))
 refine b2d rfl rfl rfl rfl rfl ?_
 refine a0c (a0d ?_)
 rcases a0i hm with ⟨hb1, hm⟩ | ⟨hb1, hm⟩
 ·refine a0u 15 rfl hb1 ?_
  refine a0z rfl (a0f (a0a ?_))
  refine a1r (v := .agg #[.int .i64 0, .slice none 0 0]) rfl rfl rfl (fun _ => by kernel_rfl) ?_
  refine a0o sz24 rfl hx1 rfl rfl rfl rfl (i := 0) rfl rfl rfl rfl ?_
  intro wx2 hx2
  refine a0b rfl rfl rfl (a0c (a0d (a1d (a0n ?_))))
  refine a1k (vl := [.agg #[.int .i64 0, .slice none 0 0], .int .i64 0]) rfl ⟨a1q ag24 sz24 rfl hx2 rfl (i := 0) rfl, a1w rfl, trivial⟩ (by simp) ?_
  obtain rfl := Option.some.inj hm
  exact ⟨_, _, _, rfl, hx2.pick [] (by decide) rfl, none, 0, 0, rfl, rfl, SlR.nil _ _⟩
 refine a0u 15 rfl hb1 ?_
 refine a0s rfl (a1b (a0d (a0f (a0f (a0a (a0e rfl rfl rfl ?_))))))
 refine b2d rfl rfl rfl rfl rfl ?_
 refine a0e rfl rfl rfl ?_
 obtain ⟨v2, hb2, hm⟩ := bind_some hm
 refine a2k 4 (fun a w' => wx1 = w' ∧ Has 52 a [(2, .pointer (some ⟨b1, 0, none⟩)), (4, vs v1.1), (5, .bool v1.2), (23, .bool v2)]) ?_ ?_
 ·rintro a wx3 ⟨rfl, hax1⟩
  refine a1a hax1 ?_
  refine a0e rfl rfl rfl ?_
  obtain ⟨v3, hb3, hm⟩ := bind_some hm
  refine a2k 4 (fun a w' => ∃ (Fx1 : Frz), Frz.le F Fx1 ∧ HS F w [] Fx1 [.box b1 24 [.int .i64 0, .slice none 0 0]] w' ∧ Has 52 a [(2, .pointer (some ⟨b1, 0, none⟩)), (4, vs v1.1), (5, .bool v1.2), (28, .bool v3)]) ?_ ?_
  ·rintro a wx4 ⟨Fx1, hF1, hx3, hax2⟩
   refine a1a hax2 ?_
   refine a0c (a0d ?_)
   rcases a0i hm with ⟨hb4, hm⟩ | ⟨hb4, hm⟩
   ·refine a0u 28 rfl hb4 ?_
    refine a0z rfl (a0f (a0a ?_))
    refine a1r (v := .agg #[.int .i64 0, .slice none 0 0]) rfl rfl rfl (fun _ => by kernel_rfl) ?_
    refine a0o sz24 rfl hx3 rfl rfl rfl rfl (i := 0) rfl rfl rfl rfl ?_
    intro wx5 hx4
    refine a0b rfl rfl rfl (a0c (a0d (a1d (a0n ?_))))
    refine a1k (vl := [.agg #[.int .i64 0, .slice none 0 0], .int .i64 2]) rfl ⟨a1q ag24 sz24 rfl hx4 rfl (i := 0) rfl, a1w rfl, trivial⟩ (by simp) ?_
    obtain rfl := Option.some.inj hm
    exact ⟨_, _, _, rfl, hx4.pick [] (by decide) rfl, none, 0, 0, rfl, rfl, SlR.nil _ _⟩
   refine a0u 28 rfl hb4 ?_
   refine a0s rfl (a1b (a0d (a0f (a0a (a0b rfl rfl rfl (a0c (a0d (a0f (a0f (a0a (a0e rfl rfl rfl ?_)))))))))))
   obtain ⟨l1, hl1, hm⟩ := bind_some hm
   refine c5s u9 u76 u5 rfl rfl hx3 rfl hl1 ?_
   intro Fx2 as2 ns2 cs2 wx6 hF2 hx5 hr1
   refine a1z hr1.len u76 rfl rfl rfl ?_
   refine a0e rfl rfl rfl (a0c (a0d (a1i ?_)))
   intro a hax5
   obtain ⟨kont1, hkont1⟩ : ∃ kont1 : (List Int) → Option (Big × Int), kont1 = (fun (l3 : (List Int)) =>
     bif v1.2 then
      (a1y n (-1) l3).bind fun v4 =>
      some (v4, 0)
     else
      (a1y n 1 l3).bind fun v5 =>
      some (v5, 0)) := ⟨_, rfl⟩
   replace hm : (fun m (s : (List Int) × Int) => a6g n l1 kont1 m s.1 s.2) n ([], 0) = some r := by rw [hkont1]; exact hm
   refine a5u (id := 0) (fun m (s : (List Int) × Int) => a6g n l1 kont1 m s.1 s.2) (fun (y : (List Int)) => kont1 y) r (fun (s : (List Int) × Int) a w' => ∃ (Fx3 : Frz) (as3 : Option Addr) (ns3 : Nat) (cs3 : Nat), Frz.le Fx2 Fx3 ∧ HS F w [] Fx3 [.box b1 24 [.int .i64 0, .slice none 0 0]] w' ∧ (SlR (Rp.int .i64) Fx3 as3 ns3 cs3 s.1) ∧ Has 52 a [(2, .pointer (some ⟨b1, 0, none⟩)), (5, .bool v1.2), (6, .slice as3 ns3 cs3), (31, .slice as2 ns2 cs2), (32, .int .i64 (l1.length : Int)), (33, .int .i64 s.2)]) (fun (y : (List Int)) a w' => ∃ (Fx4 : Frz) (as4 : Option Addr) (ns4 : Nat) (cs4 : Nat), Frz.le Fx2 Fx4 ∧ HS F w [] Fx4 [.box b1 24 [.int .i64 0, .slice none 0 0]] w' ∧ (SlR (Rp.int .i64) Fx4 as4 ns4 cs4 y) ∧ Has 52 a [(2, .pointer (some ⟨b1, 0, none⟩)), (5, .bool v1.2), (6, .slice as4 ns4 cs4)]) (fun _ => rfl) ?_ ?_ hm ⟨_, none, 0, 0, Frz.refl _, hx5.pick [0] (by decide) rfl, SlR.nil _ _, hax5.cut (l := [2, 5, 6, 31, 32, 33]) rfl⟩
   ·clear hm; rintro l3 a wx7 hm ⟨Fx4, as4, ns4, cs4, hF4, hx7, hs4, hax3⟩
    rw [hkont1] at hm
    replace hm := hm
    refine a2d (e := .exit 0) hax3 ?_
    refine a1j (a0d (a0f (a0f (a0a (a0e rfl rfl rfl (a0c (a0d ?_)))))))
    rcases a0i hm with ⟨hb5, hm⟩ | ⟨hb5, hm⟩
    ·refine a0u 47 rfl hb5 ?_
     refine a0z rfl (a0f (a0a (a0e rfl rfl rfl ?_)))
     obtain ⟨v4, hv2, hm⟩ := bind_some hm
     refine a0g ent76 rfl rfl rfl rfl hx7 (a3d _ _ _ _ hv2 hx7.sat hs4) ?_
     rintro _ Fx5 _ wx8 hF5 hx8 ⟨as5, ns5, cs5, rfl, rfl, hs5⟩
     refine a0o sz24 rfl hx8 rfl rfl rfl rfl (i := 0) rfl rfl rfl rfl ?_
     intro wx9 hx9
     refine a0b rfl rfl rfl (a0c (a0d (a1d (a0n ?_))))
     refine a1k (vl := [.agg #[.int .i64 v4.Sign, .slice as5 ns5 cs5], .int .i64 0]) rfl ⟨a1q ag24 sz24 rfl hx9 rfl (i := 0) rfl, a1w rfl, trivial⟩ (by simp) ?_
     obtain rfl := Option.some.inj hm
     exact ⟨_, _, _, rfl, hx9.pick [] (by decide) rfl, as5, ns5, cs5, rfl, rfl, hs5⟩
    refine a0u 47 rfl hb5 ?_
    refine a0s rfl (a1b (a0d (a0f (a0a (a0e rfl rfl rfl ?_)))))
    obtain ⟨v5, hv3, hm⟩ := bind_some hm
    refine a0g ent76 rfl rfl rfl rfl hx7 (a3d _ _ _ _ hv3 hx7.sat hs4) ?_
    rintro _ Fx6 _ wx10 hF6 hx10 ⟨as6, ns6, cs6, rfl, rfl, hs6⟩
    refine a0o sz24 rfl hx10 rfl rfl rfl rfl (i := 0) rfl rfl rfl rfl ?_
    intro wx11 hx11
    refine a0b rfl rfl rfl (a0c (a0d (a1d ?_)))
    refine a1k (vl := [.agg #[.int .i64 v5.Sign, .slice as6 ns6 cs6], .int .i64 0]) rfl ⟨a1q ag24 sz24 rfl hx11 rfl (i := 0) rfl, a1w rfl, trivial⟩ (by simp) ?_
    obtain rfl := Option.some.inj hm
    exact ⟨_, _, _, rfl, hx11.pick [] (by decide) rfl, as6, ns6, cs6, rfl, rfl, hs6⟩
   clear hm hkont1; intro hk1 mx1 K ihx1
   rintro ⟨l2, i1⟩ a wx12 hm ⟨Fx3, as3, ns3, cs3, hF3, hx6, hs3, hax4⟩
   simp only [b2b] at hm
   refine a1l hax4 ?_
   refine a0f (a0a ?_)
   refine a0v rfl rfl rfl rfl rfl ?_
   refine a0c (a0d (a0f ?_))
   rcases a0i hm with ⟨hb6, hm⟩ | ⟨hb6, hm⟩
   ·refine a0u 34 rfl hb6 ?_
    refine a0z rfl (a1b (a0d (a0f (a1i (a0f (a0a ?_))))))
    obtain ⟨ex1, he1, hm⟩ := bind_some hm
    refine a3w (r := (Rp.int .u8)) u76 sz5 rfl rfl rfl rfl (hr1.mono hF3) he1 ?_
    intro b2 o1 cs1 hf1 hr2
    have hc1 : cs1 = [.int .u8 ex1] := hr2
    subst hc1
    refine a2h (j := 0) ag5 rfl rfl hx6 hf1 rfl rfl ?_
    refine a0b rfl rfl rfl (a0c (a0d (a0a (a0e rfl rfl rfl ?_))))
    refine a1x (e := 3) (cs := [.int .i64 10]) (q := 1) rfl rfl hx6 rfl (fun _ => by kernel_rfl) rfl rfl ?_
    intro b3 wx13 hx12
    obtain ⟨Fx7, hF7, hx13, hsx1⟩ := a1g hx12 (i := 0) rfl ((show RowN (Rp.int .i64) Fx3 1 [.int .i64 10] [10] from ⟨rfl, ⟨_, _, rfl, rfl, (rfl : RowR (Rp.int .i64) _ [] [])⟩⟩))
    obtain ⟨v6, hv4, hm⟩ := bind_some hm
    refine a0g ent77 rfl rfl rfl rfl hx13 (b3t _ _ _ _ hv4 hx13.sat (hs3.mono hF7) hsx1) ?_
    rintro _ Fx8 _ wx14 hF8 hx14 ⟨as7, ns7, cs7, xss7, rfl, rfl, hs7⟩
    refine a0e rfl rfl rfl ?_
    refine a0v rfl rfl rfl rfl rfl ?_
    refine b8h u5 u3 rfl rfl rfl ?_
    refine a1x (e := 3) (cs := [.int .i64 (IntKind.i64.wrap (isub .u8 ex1 48))]) (q := 1) rfl rfl hx14 rfl (fun _ => by kernel_rfl) rfl rfl ?_
    intro b4 wx15 hx15
    obtain ⟨v7, hv5, hm⟩ := bind_some hm
    refine b1w ent91 rfl rfl rfl rfl (a6f _ _ _ hv5 (a7l _) (hx15.viewRow (p := 0) rfl rfl ((show RowN (Rp.int .i64) Fx8 1 [.int .i64 (IntKind.i64.wrap (isub .u8 ex1 48))] [IntKind.i64.wrap (isub .u8 ex1 48)] from ⟨rfl, ⟨_, _, rfl, rfl, (rfl : RowR (Rp.int .i64) _ [] [])⟩⟩)))) ?_
    intro ns8 hles8 hvs8
    obtain ⟨hx16, hr3⟩ := hx15.cutN (p := 0) rfl ((show RowN (Rp.int .i64) Fx8 1 [.int .i64 (IntKind.i64.wrap (isub .u8 ex1 48))] [IntKind.i64.wrap (isub .u8 ex1 48)] from ⟨rfl, ⟨_, _, rfl, rfl, (rfl : RowR (Rp.int .i64) _ [] [])⟩⟩)) hles8
    rw [← hvs8] at hr3
    obtain ⟨Fx9, hF9, hx17, hsx2⟩ := a1g hx16 (i := 1) rfl hs7
    obtain ⟨Fx10, hF10, hx18, hsx3⟩ := a1g hx17 (i := 0) rfl (hr3.mono hF9)
    obtain ⟨v8, hv6, hm⟩ := bind_some hm
    refine a0g ent79 rfl rfl rfl rfl hx18 (b5e _ _ _ _ hv6 hx18.sat (hsx2.mono hF10) hsx3) ?_
    rintro _ Fx11 _ wx16 hF11 hx19 ⟨as9, ns9, cs9, xss9, rfl, rfl, hs9⟩
    refine a0b rfl rfl rfl (a0c (a2a (a0d (a0a ?_))))
    refine a0v rfl rfl rfl rfl rfl ?_
    refine a0e rfl rfl rfl (a0c ?_)
    obtain ⟨Fx12, hF12, hx20, hsx4⟩ := a1g hx19 (i := 0) rfl hs9
    refine a0p (fun a ha => ihx1 (v8, (iadd .i64 i1 1)) a _ hm ?_)
    exact ⟨_, as9, ns9, cs9, ((((((hF3.trans hF7).trans hF8).trans hF9).trans hF10).trans hF11).trans hF12), hx20.pick [0] (by decide) rfl, hsx4, ha.cut (l := [2, 5, 6, 31, 32, 33]) rfl⟩
   refine a0u 34 rfl hb6 ?_
   refine a0s rfl (a3l (a0q (a0q ?_)))
   refine fun a ha => hk1 l2 a _ hm ?_
   exact ⟨_, as3, ns3, cs3, hF3, hx6.pick [0] (by decide) rfl, hs3, ha.cut (l := [2, 5, 6]) rfl⟩
  clear hm
  rcases a0i hb3 with ⟨hb7, hb3⟩ | ⟨hb7, hb3⟩
  ·refine a1e 24 rfl hb7 ?_
   refine a0r rfl (by decide) rfl (a0r rfl (by decide) rfl (a0r rfl (by decide) rfl (a0m rfl rfl rfl rfl (a0c ?_))))
   refine a0p (fun a ha => ?_)
   cases hb3
   exact ⟨_, Frz.refl _, hx1.pick [0] (by decide) rfl, ha.cut (l := [2, 4, 5, 28]) rfl⟩
  refine a1e 24 rfl hb7 ?_
  refine a0e rfl rfl rfl ?_
  obtain ⟨v9, hv7, hb3⟩ := bind_some hb3
  refine a0g ent90 rfl rfl rfl rfl hx1 (b7z _ _ _ _ hv7 hx1.sat) ?_
  rintro _ Fx13 _ wx17 hF13 hx21 ⟨rfl, rfl⟩
  refine b2d rfl rfl rfl rfl rfl ?_
  refine a0l rfl rfl rfl rfl (a0c ?_)
  refine a0p (fun a ha => ?_)
  cases hb3
  exact ⟨_, hF13, hx21.pick [0] (by decide) rfl, ha.cut (l := [2, 4, 5, 28]) rfl⟩
 clear hm
 rcases a0i hb2 with ⟨hb8, hb2⟩ | ⟨hb8, hb2⟩
 ·refine a1e 19 rfl hb8 ?_
  refine a0r rfl (by decide) rfl (a0r rfl (by decide) rfl (a0r rfl (by decide) rfl (a0m rfl rfl rfl rfl (a0c ?_))))
  refine a0p (fun a ha => ?_)
  cases hb2
  exact ⟨rfl, ha.cut (l := [2, 4, 5, 23]) rfl⟩
 refine a1e 19 rfl hb8 ?_
 refine a0e rfl rfl rfl ?_
 obtain ⟨c1, hc2, hb2⟩ := bind_some hb2
 refine b3y u9 rfl rfl rfl rfl hc2 ?_
 refine a0v rfl rfl rfl rfl rfl ?_
 refine a0l rfl rfl rfl rfl (a0c ?_)
 refine a0p (fun a ha => ?_)
 cases hb2
 exact ⟨rfl, ha.cut (l := [2, 4, 5, 23]) rfl⟩
end Go.Proofs.YtaanocaobllohaaGreatDoor.M
