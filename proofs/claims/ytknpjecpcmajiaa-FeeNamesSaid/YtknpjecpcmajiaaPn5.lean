/- Several texts in one, for FeeNames.said: what the theorem leans on. -/
import Derived.Test.YtknpjecpcmajiaaRows
import Derived.Test.YtknpjecpcmajiaaPn4
namespace Go.Proofs.Ytknpjecpcmajiaa.Wrap
open Go Go.ChangeShapes Go.WideShapes Go.ChangeAt Go.RowKit Rt
theorem c3t (W : World) : b1s Try.prog W 9 Rp.str (fun s => s.length ≤ maxLen) := c5c Try.underlying9
theorem cells9 : Try.prog.cellsOf 9 = 1 := by kernel_rfl
theorem b6e (W : World) : b1s Try.prog W 3 (Rp.int .i64) (fun z => IntKind.i64.min ≤ z ∧ z ≤ IntKind.i64.max) := c4b Try.underlying3
theorem cells3 : Try.prog.cellsOf 3 = 1 := by kernel_rfl
theorem cells22 : Try.prog.cellsOf 22 = 1 := by kernel_rfl
theorem cells24 : Try.prog.cellsOf 24 = 4 := by kernel_rfl
inductive WfX : M.Expr → Prop
  | mk {o n : Int} {s : Rt.Bs} {l : List M.Expr} : (IntKind.i64.min ≤ o ∧ o ≤ IntKind.i64.max) → (IntKind.i64.min ≤ n ∧ n ≤ IntKind.i64.max) → s.length ≤ maxLen → l.length ≤ maxLen → (∀ y, y ∈ l → WfX y) → WfX ⟨o, n, s, l⟩
def ok24 (x : M.Expr) : Prop := WfX x
set_option maxRecDepth 100000 in
theorem c6h (W : World) {H : Type} (enc : TypeId × Value → H) : ∀ (fuel : Nat) (cs : List Value) (x : DataW H × List MemPlace), DataW.trod enc Try.prog W 0 (fun _ => true) true fuel 24 cs = some x → ∃ y, M.rp_Expr.R (all W) cs y ∧ WfX y := by
  intro fuel
  induction fuel using Nat.strongRecOn with
  | ind fuel ih =>
    intro cs x h
    obtain ⟨xs, n, hfu, _, hl, hn, hf⟩ := DataW.trod_struct Try.underlying24 h
    obtain ⟨y0, r0, o0⟩ := a7i hn hf (i := 0) rfl (b6e W)
    obtain ⟨y1, r1, o1⟩ := a7i hn hf (i := 1) rfl (b6e W)
    obtain ⟨y2, r2, o2⟩ := a7i hn hf (i := 2) rfl (c3t W)
    have h3 : DataW.trod enc Try.prog W 0 (fun _ => true) true n 22 ((cs.drop 3).take (Try.prog.cellsOf 22)) = xs[3]? := hf 3 _ rfl
    have h3l : 3 < xs.length := by rw [hn]; decide
    rw [List.getElem?_eq_getElem h3l] at h3
    obtain ⟨l, ⟨a, m, c, e3', s3⟩, o3, o4⟩ := c7h Try.underlying22 (r := M.rp_Expr) (ok := WfX) (by rw [cells24]; rfl) (by decide) h3 (fun j cs' x' hj hx => ih j (by omega) cs' x' hx)
    have e0 : (cs.drop 0).take (Try.prog.cellsOf 3) = [.int .i64 y0] := r0
    have e1 : (cs.drop 1).take (Try.prog.cellsOf 3) = [.int .i64 y1] := r1
    have e2 : (cs.drop 2).take (Try.prog.cellsOf 9) = [vs y2] := r2
    have e3 : (cs.drop 3).take (Try.prog.cellsOf 22) = [.slice a m c] := e3'
    rw [cells3] at e0 e1
    rw [cells9] at e2
    rw [cells22] at e3
    rw [cells24] at hl
    refine ⟨⟨y0, y1, y2, l⟩, M.expr_iff.2 ⟨a, m, c, ?_, s3⟩, WfX.mk o0 o1 o2 o3 o4⟩
    show cs = _
    have hd : cs.drop 4 = [] := List.drop_of_length_le (by omega)
    have h0 : cs = cs.drop 0 := (List.drop_zero).symm
    rw [h0]
    rw [show cs.drop 0 = (cs.drop 0).take 1 ++ cs.drop 1 from a6j cs 0 1, e0]
    rw [show cs.drop 1 = (cs.drop 1).take 1 ++ cs.drop 2 from a6j cs 1 1, e1]
    rw [show cs.drop 2 = (cs.drop 2).take 1 ++ cs.drop 3 from a6j cs 2 1, e2]
    rw [show cs.drop 3 = (cs.drop 3).take 1 ++ cs.drop 4 from a6j cs 3 1, e3]
    rw [hd]
    rfl
theorem c8d (W : World) : b1s Try.prog W 24 M.rp_Expr ok24 := fun enc fuel cs x h => c6h W enc fuel cs x h
theorem cells26 : Try.prog.cellsOf 26 = 6 := by kernel_rfl
def ok26 (x : M.Tariff) : Prop := x.Name.length ≤ maxLen ∧ ok24 x.Fee ∧ (IntKind.i64.min ≤ x.Cap ∧ x.Cap ≤ IntKind.i64.max)
set_option maxRecDepth 100000 in
theorem c8j (W : World) : b1s Try.prog W 26 M.rp_Tariff ok26 := by
  intro H enc fuel cs x h
  obtain ⟨xs, n, _, _, hl, hn, hf⟩ := DataW.trod_struct Try.underlying26 h
  obtain ⟨y0, r0, o0⟩ := a7i hn hf (i := 0) rfl (c3t W)
  have e0' := r0
  have e0 : (cs.drop 0).take (Try.prog.cellsOf 9) = [vs y0] := e0'
  rw [cells9] at e0
  obtain ⟨y1, r1, o1⟩ := a7i hn hf (i := 1) rfl (c8d W)
  obtain ⟨a1_3, n1_3, c1_3, e1', s1_3⟩ := (M.expr_iff.1 r1)
  have e1 : (cs.drop 1).take (Try.prog.cellsOf 24) = [.int .i64 y1.Op, .int .i64 y1.N, vs y1.Name, .slice a1_3 n1_3 c1_3] := e1'
  rw [cells24] at e1
  obtain ⟨y2, r2, o2⟩ := a7i hn hf (i := 2) rfl (b6e W)
  have e2' := r2
  have e2 : (cs.drop 5).take (Try.prog.cellsOf 3) = [.int .i64 y2] := e2'
  rw [cells3] at e2
  rw [cells26] at hl
  refine ⟨⟨y0, y1, y2⟩, ⟨a1_3, n1_3, c1_3, ?_, s1_3⟩, o0, o1, o2⟩
  show cs = _
  have hd : cs.drop 6 = [] := List.drop_of_length_le (by omega)
  have h0 : cs = cs.drop 0 := (List.drop_zero).symm
  rw [h0]
  rw [show cs.drop 0 = (cs.drop 0).take 1 ++ cs.drop 1 from a6j cs 0 1, e0]
  rw [show cs.drop 1 = (cs.drop 1).take 4 ++ cs.drop 5 from a6j cs 1 4, e1]
  rw [show cs.drop 5 = (cs.drop 5).take 1 ++ cs.drop 6 from a6j cs 5 1, e2]
  rw [hd]
  rfl
def ok27 (l : List Bs) : Prop := l.length ≤ maxLen ∧ ∀ x ∈ l, x.length ≤ maxLen
theorem c8n (W : World) : b1s Try.prog W 27 (Rp.sl Rp.str) ok27 := b3l Try.underlying27 (r := Rp.str) (by rw [cells9]; rfl) (by decide) (c3t W)
def ok28 (l : List Int) : Prop := l.length ≤ maxLen ∧ ∀ x ∈ l, (IntKind.i64.min ≤ x ∧ x ≤ IntKind.i64.max)
theorem c4a (W : World) : b1s Try.prog W 28 (Rp.sl (Rp.int .i64)) ok28 := b3l Try.underlying28 (r := (Rp.int .i64)) (by rw [cells3]; rfl) (by decide) (b6e W)
theorem cells28 : Try.prog.cellsOf 28 = 1 := by kernel_rfl
theorem cells30 : Try.prog.cellsOf 30 = 3 := by kernel_rfl
def ok30 (x : M.Facts) : Prop := ok28 x.Lifts ∧ (IntKind.i64.min ≤ x.Persons ∧ x.Persons ≤ IntKind.i64.max) ∧ (IntKind.i64.min ≤ x.Flats ∧ x.Flats ≤ IntKind.i64.max)
set_option maxRecDepth 100000 in
theorem c8q (W : World) : b1s Try.prog W 30 M.rp_Facts ok30 := by
  intro H enc fuel cs x h
  obtain ⟨xs, n, _, _, hl, hn, hf⟩ := DataW.trod_struct Try.underlying30 h
  obtain ⟨y0, r0, o0⟩ := a7i hn hf (i := 0) rfl (c4a W)
  obtain ⟨a0_0, n0_0, c0_0, e0', s0_0⟩ := r0
  have e0 : (cs.drop 0).take (Try.prog.cellsOf 28) = [.slice a0_0 n0_0 c0_0] := e0'
  rw [cells28] at e0
  obtain ⟨y1, r1, o1⟩ := a7i hn hf (i := 1) rfl (b6e W)
  have e1' := r1
  have e1 : (cs.drop 1).take (Try.prog.cellsOf 3) = [.int .i64 y1] := e1'
  rw [cells3] at e1
  obtain ⟨y2, r2, o2⟩ := a7i hn hf (i := 2) rfl (b6e W)
  have e2' := r2
  have e2 : (cs.drop 2).take (Try.prog.cellsOf 3) = [.int .i64 y2] := e2'
  rw [cells3] at e2
  rw [cells30] at hl
  refine ⟨⟨y0, y1, y2⟩, ⟨a0_0, n0_0, c0_0, ?_, s0_0⟩, o0, o1, o2⟩
  show cs = _
  have hd : cs.drop 3 = [] := List.drop_of_length_le (by omega)
  have h0 : cs = cs.drop 0 := (List.drop_zero).symm
  rw [h0]
  rw [show cs.drop 0 = (cs.drop 0).take 1 ++ cs.drop 1 from a6j cs 0 1, e0]
  rw [show cs.drop 1 = (cs.drop 1).take 1 ++ cs.drop 2 from a6j cs 1 1, e1]
  rw [show cs.drop 2 = (cs.drop 2).take 1 ++ cs.drop 3 from a6j cs 2 1, e2]
  rw [hd]
  rfl
theorem cells35 : Try.prog.cellsOf 35 = 2 := by kernel_rfl
def ok35 (x : M.Big) : Prop := (IntKind.i64.min ≤ x.Sign ∧ x.Sign ≤ IntKind.i64.max) ∧ ok28 x.Digits
set_option maxRecDepth 100000 in
theorem c5o (W : World) : b1s Try.prog W 35 M.rp_Big ok35 := by
  intro H enc fuel cs x h
  obtain ⟨xs, n, _, _, hl, hn, hf⟩ := DataW.trod_struct Try.underlying35 h
  obtain ⟨y0, r0, o0⟩ := a7i hn hf (i := 0) rfl (b6e W)
  have e0' := r0
  have e0 : (cs.drop 0).take (Try.prog.cellsOf 3) = [.int .i64 y0] := e0'
  rw [cells3] at e0
  obtain ⟨y1, r1, o1⟩ := a7i hn hf (i := 1) rfl (c4a W)
  obtain ⟨a1_0, n1_0, c1_0, e1', s1_0⟩ := r1
  have e1 : (cs.drop 1).take (Try.prog.cellsOf 28) = [.slice a1_0 n1_0 c1_0] := e1'
  rw [cells28] at e1
  rw [cells35] at hl
  refine ⟨⟨y0, y1⟩, ⟨a1_0, n1_0, c1_0, ?_, s1_0⟩, o0, o1⟩
  show cs = _
  have hd : cs.drop 2 = [] := List.drop_of_length_le (by omega)
  have h0 : cs = cs.drop 0 := (List.drop_zero).symm
  rw [h0]
  rw [show cs.drop 0 = (cs.drop 0).take 1 ++ cs.drop 1 from a6j cs 0 1, e0]
  rw [show cs.drop 1 = (cs.drop 1).take 1 ++ cs.drop 2 from a6j cs 1 1, e1]
  rw [hd]
  rfl
theorem cells37 : Try.prog.cellsOf 37 = 4 := by kernel_rfl
def ok37 (x : M.Frac) : Prop := ok35 x.P ∧ ok35 x.Q
set_option maxRecDepth 100000 in
theorem c9t (W : World) : b1s Try.prog W 37 M.rp_Frac ok37 := by
  intro H enc fuel cs x h
  obtain ⟨xs, n, _, _, hl, hn, hf⟩ := DataW.trod_struct Try.underlying37 h
  obtain ⟨y0, r0, o0⟩ := a7i hn hf (i := 0) rfl (c5o W)
  obtain ⟨a0_1, n0_1, c0_1, e0', s0_1⟩ := r0
  have e0 : (cs.drop 0).take (Try.prog.cellsOf 35) = [.int .i64 y0.Sign, .slice a0_1 n0_1 c0_1] := e0'
  rw [cells35] at e0
  obtain ⟨y1, r1, o1⟩ := a7i hn hf (i := 1) rfl (c5o W)
  obtain ⟨a1_1, n1_1, c1_1, e1', s1_1⟩ := r1
  have e1 : (cs.drop 2).take (Try.prog.cellsOf 35) = [.int .i64 y1.Sign, .slice a1_1 n1_1 c1_1] := e1'
  rw [cells35] at e1
  rw [cells37] at hl
  refine ⟨⟨y0, y1⟩, ⟨a0_1, n0_1, c0_1, a1_1, n1_1, c1_1, ?_, s0_1, s1_1⟩, o0, o1⟩
  show cs = _
  have hd : cs.drop 4 = [] := List.drop_of_length_le (by omega)
  have h0 : cs = cs.drop 0 := (List.drop_zero).symm
  rw [h0]
  rw [show cs.drop 0 = (cs.drop 0).take 2 ++ cs.drop 2 from a6j cs 0 2, e0]
  rw [show cs.drop 2 = (cs.drop 2).take 2 ++ cs.drop 4 from a6j cs 2 2, e1]
  rw [hd]
  rfl
def ok31 (l : List M.Frac) : Prop := l.length ≤ maxLen ∧ ∀ x ∈ l, ok37 x
theorem c8e (W : World) : b1s Try.prog W 31 (Rp.sl M.rp_Frac) ok31 := b3l Try.underlying31 (r := M.rp_Frac) (by rw [cells37]; rfl) (by decide) (c9t W)
def tabs : List (String × DataW Unit) := []
noncomputable def b6s (os : Os) : World :=
  { World.holding Try.prog os ⟨#[], #[], []⟩ with heap := (World.holding Try.prog os ⟨#[], #[], []⟩).heap }
theorem c7c (os : Os) (args : Array Value) : laidMet Try.prog tabs ((b6s os).forCall (fun _ _ => 0) ⟨#[], args, []⟩).memory :=
  laidMet_of_run' 8 (by kernel_rfl) (by kernel_rfl)
end Go.Proofs.Ytknpjecpcmajiaa.Wrap

namespace Go.Proofs.Ytknpjecpcmajiaa.M
open Go Go.RowKit Rt
theorem ent12 : Ent Try.prog 12 := fun _ _ => by kernel_rfl
theorem ent10 : Ent Try.prog 10 := fun _ _ => by kernel_rfl
theorem ent9 : Ent Try.prog 9 := fun _ _ => by kernel_rfl
theorem ent18 : Ent Try.prog 18 := fun _ _ => by kernel_rfl
theorem ent19 : Ent Try.prog 19 := fun _ _ => by kernel_rfl
theorem ent13 : Ent Try.prog 13 := fun _ _ => by kernel_rfl
theorem ent11 : Ent Try.prog 11 := fun _ _ => by kernel_rfl
def a9r (n : Nat)  : Option Bool :=
 (b1h n 12345 2).bind fun v1 =>
 (b1h n 2469 400).bind fun v2 =>
 (a8k n 100).bind fun v3 =>
 ((a6v n 1000).bind fun v37 =>
 (a8e n (⟨4, 0, [112, 97, 112, 101, 114], []⟩ : Expr) v37).bind fun v38 =>
 (a7h n 8 v38).bind fun v39 =>
 (a8q n v39 [v1.1, v3]).bind fun v40 =>
 some (v40.1.P.Sign, v40.1.P.Digits, v40.1.Q.Sign, v40.1.Q.Digits, v40.2)).bind fun (f1, f2, f3, f4, ex1) =>
 ((a6v n 1000).bind fun v32 =>
 (a8e n v32 (⟨2, 0, [], []⟩ : Expr)).bind fun v33 =>
 (a7h n 7 v33).bind fun v34 =>
 (a8e n (⟨4, 0, [112, 97, 112, 101, 114], []⟩ : Expr) v34).bind fun v35 =>
 (a7h n 9 v35).bind fun v36 =>
 some (v36.Op, v36.N, v36.Name, v36.Args)).bind fun (f5, f6, f7, f8) =>
 (a8e n (⟨f5, f6, f7, f8⟩ : Expr) (⟨1, 0, [112, 97, 112, 101, 114], []⟩ : Expr)).bind fun v4 =>
 (a7h n 5 v4).bind fun v5 =>
 (a8q n v5 [v1.1, v3]).bind fun v6 =>
 (a6v n 2).bind fun v7 =>
 (a8e n v7 (⟨4, 0, [103, 108, 97, 115, 115], []⟩ : Expr)).bind fun v8 =>
 (a7h n 6 v8).bind fun v9 =>
 ((a6v n 3).bind fun v27 =>
 (a8e n (⟨2, 0, [], []⟩ : Expr) v27).bind fun v28 =>
 (a7h n 12 v28).bind fun v29 =>
 (a6v n 1).bind fun v30 =>
 (a7h n 11 [v29, v30, v9]).bind fun v31 =>
 some (v31.Op, v31.N, v31.Name, v31.Args)).bind fun (f9, f10, f11, f12) =>
 (a8q n (⟨f9, f10, f11, f12⟩ : Expr) [v1.1, v3]).bind fun v10 =>
 (b4q n (⟨[97], (⟨f9, f10, f11, f12⟩ : Expr), 5⟩ : Tariff) [[112, 97, 112, 101, 114], [103, 108, 97, 115, 115]] (⟨[4, 0], 3, 1⟩ : Facts) [v1.1, v3]).bind fun v11 =>
 (a8q n (⟨4, 0, [116, 105, 110], []⟩ : Expr) [v1.1, v3]).bind fun v12 =>
 (bif ex1 != 0 then
  some true
 else
  some (v6.2 != 0)).bind fun v13 =>
 (bif v13 then
  some true
 else
  some (v10.2 != 0)).bind fun v14 =>
 (bif v14 then
  some true
 else
  some (v11.2 != 0)).bind fun v15 =>
 (bif v15 then
  some true
 else
  some (v12.2 != 11)).bind fun v16 =>
 bif v16 then
  some false
 else
  (a5c n (⟨(⟨f1, f2⟩ : Big), (⟨f3, f4⟩ : Big)⟩ : Frac) v2.1).bind fun v17 =>
  (bif v17 then
   (a8k n 3004).bind fun v25 =>
   (a5c n v6.1 v25).bind fun v26 =>
   some v26
  else
   some false).bind fun v18 =>
  (bif v18 then
   (a8k n (-98)).bind fun v23 =>
   (a5c n v10.1 v23).bind fun v24 =>
   some v24
  else
   some false).bind fun v19 =>
  (bif v19 then
   (a8k n 0).bind fun v21 =>
   (a5c n v11.1 v21).bind fun v22 =>
   some v22
  else
   some false).bind fun v20 =>
  some v20
set_option maxHeartbeats 1000000 in
set_option maxRecDepth 1000000 in
theorem b7m (n : Nat)  (r : Bool) (hm : a9r n  = some r) {w : World} {F : Frz} (hs : Sat F w)  :
  Calls Try.prog 5 #[] w fun e w' => ∃ v F' O', e = .returned v ∧ HS F w [] F' O' w' ∧ (v = .bool r ∧ O' = []) := by
 unfold a9r at hm
 have h := HS.init hs
 refine a1e 129 Try.func5 rfl rfl rfl ?_
 refine a0f (a0a (a0b rfl rfl rfl (a0c (a0d (a0f (a0a ?_))))))
 obtain ⟨v1, hv1, hm⟩ := bind_some hm
 refine a0g ent17 rfl rfl rfl rfl h (b3e _ _ _ _ hv1 h.sat) ?_
 rintro _ Fx1 _ wx1 hF1 hx1 ⟨as1, ns1, cs1, as2, ns2, cs2, rfl, rfl, hs1, hs2⟩
 refine a0e rfl rfl rfl (a0k rfl rfl rfl rfl (a0k rfl rfl rfl rfl ?_))
 refine a1c ze37 rfl rfl rfl hx1 ?_
 intro b1 wx2 hx2
 refine a0r sz37 rfl hx2 rfl rfl rfl rfl (i := 0) rfl rfl rfl rfl ?_
 intro wx3 hx3
 refine a0b rfl rfl rfl (a0c (a0d (a0f (a0a ?_))))
 obtain ⟨v2, hv2, hm⟩ := bind_some hm
 refine a0g ent17 rfl rfl rfl rfl hx3 (b3e _ _ _ _ hv2 hx3.sat) ?_
 rintro _ Fx2 _ wx4 hF2 hx4 ⟨as3, ns3, cs3, as4, ns4, cs4, rfl, rfl, hs3, hs4⟩
 refine a0e rfl rfl rfl (a0k rfl rfl rfl rfl (a0k rfl rfl rfl rfl ?_))
 refine a1c ze37 rfl rfl rfl hx4 ?_
 intro b2 wx5 hx5
 refine a0r sz37 rfl hx5 rfl rfl rfl rfl (i := 0) rfl rfl rfl rfl ?_
 intro wx6 hx6
 refine a0b rfl rfl rfl (a0c (a0d (a0f ?_)))
 refine a2m (SH Fx2 [.box b2 37 [.int .i64 v2.1.P.Sign, .slice as3 ns3 cs3, .int .i64 v2.1.Q.Sign, .slice as4 ns4 cs4], .box b1 37 [.int .i64 v1.1.P.Sign, .slice as1 ns1 cs1, .int .i64 v1.1.Q.Sign, .slice as2 ns2 cs2]]) 4 rfl (by kernel_rfl) hx6 ?_
 intro wx7 hx7
 refine d_tk 0 rfl (by kernel_rfl) rfl rfl rfl rfl (hx7.sh (Frz.refl _) [0, 1] (by decide) rfl) (fun _ _ _ _ hq => a0p ag37 sz37 rfl rfl hq rfl (i := 1) rfl rfl (a0c (qq rfl))) ?_
 refine a0l 1 rfl (by kernel_rfl) ?_
 obtain ⟨v3, hv3, hm⟩ := bind_some hm
 refine a0g ent12 rfl rfl rfl rfl hx7 (a5x _ _ _ hv3 hx7.sat) ?_
 rintro _ Fx3 _ wx8 hF3 hx8 ⟨as5, ns5, cs5, as6, ns6, cs6, rfl, rfl, hs5, hs6⟩
 refine a0j (hx8.sh hF3 [0, 1] (by decide) rfl) ?_
 refine a0l 2 rfl (by kernel_rfl) ?_
 refine a1a (e := 37) (cs := [.int .i64 v1.1.P.Sign, .slice as1 ns1 cs1, .int .i64 v1.1.Q.Sign, .slice as2 ns2 cs2, .int .i64 v3.P.Sign, .slice as5 ns5 cs5, .int .i64 v3.Q.Sign, .slice as6 ns6 cs6]) (q := 4) rfl rfl hx8 rfl (fun _ => by kernel_rfl) rfl rfl ?_
 intro b3 wx9 hx9
 refine a0j (hx9.sh hF3 [1, 2] (by decide) rfl) ?_
 refine d_tk 3 rfl (by kernel_rfl) rfl rfl rfl rfl (hx9.sh hF3 [1, 2] (by decide) rfl) (fun _ _ _ _ _ => a0b rfl rfl rfl (a0c (qq rfl))) ?_
 refine a1t (by kernel_rfl) ?_
 refine a0d (a0f (a0a ?_))
 refine a2g (v := .agg #[.int .i64 4, .int .i64 0, vs [112, 97, 112, 101, 114], .slice none 0 0]) rfl rfl rfl (fun _ => by kernel_rfl) ?_
 refine a1c ze24 rfl rfl rfl hx9 ?_
 intro b4 wx10 hx10
 refine a0r sz24 rfl hx10 rfl rfl rfl rfl (i := 0) rfl rfl rfl rfl ?_
 intro wx11 hx11
 refine a0c (a0d (a0f (a0a ?_)))
 refine a2g (v := .agg #[.int .i64 2, .int .i64 0, vs [], .slice none 0 0]) rfl rfl rfl (fun _ => by kernel_rfl) ?_
 refine a1c ze24 rfl rfl rfl hx11 ?_
 intro b5 wx12 hx12
 refine a0r sz24 rfl hx12 rfl rfl rfl rfl (i := 0) rfl rfl rfl rfl ?_
 intro wx13 hx13
 refine a0c (a0d ?_)
 obtain ⟨Fx4, hF4, hx14, hsx1⟩ := a0o hx13 (i := 2) rfl ((show RowN rp_Frac Fx3 2 [.int .i64 v1.1.P.Sign, .slice as1 ns1 cs1, .int .i64 v1.1.Q.Sign, .slice as2 ns2 cs2, .int .i64 v3.P.Sign, .slice as5 ns5 cs5, .int .i64 v3.Q.Sign, .slice as6 ns6 cs6] [v1.1, v3] from ⟨rfl, ⟨_, _, rfl, ⟨as1, ns1, cs1, as2, ns2, cs2, rfl, ((hs1.mono hF2).mono hF3), ((hs2.mono hF2).mono hF3)⟩, ⟨_, _, rfl, ⟨as5, ns5, cs5, as6, ns6, cs6, rfl, hs5, hs6⟩, (rfl : RowR rp_Frac _ [] [])⟩⟩⟩))
 obtain ⟨⟨f1, f2, f3, f4, ex1⟩, hb1, hm⟩ := bind_some hm
 refine c1g (fun a w' => ∃ (Fx5 : Frz) (b6 : Nat) (as7 : Option Addr) (ns7 : Nat) (cs7 : Nat) (as8 : Option Addr) (ns8 : Nat) (cs8 : Nat), Frz.le Fx4 Fx5 ∧ HS F w [] Fx5 [.box b6 37 [.int .i64 f1, .slice as7 ns7 cs7, .int .i64 f3, .slice as8 ns8 cs8], .box b5 24 [.int .i64 2, .int .i64 0, vs [], .slice none 0 0], .box b4 24 [.int .i64 4, .int .i64 0, vs [112, 97, 112, 101, 114], .slice none 0 0], .box b2 37 [.int .i64 v2.1.P.Sign, .slice as3 ns3 cs3, .int .i64 v2.1.Q.Sign, .slice as4 ns4 cs4], .box b1 37 [.int .i64 v1.1.P.Sign, .slice as1 ns1 cs1, .int .i64 v1.1.Q.Sign, .slice as2 ns2 cs2]] w' ∧ (SlR (Rp.int .i64) Fx5 as7 ns7 cs7 f2) ∧ (SlR (Rp.int .i64) Fx5 as8 ns8 cs8 f4) ∧ Has 129 a [(3, .pointer (some ⟨b2, 0, none⟩)), (5, .slice (some ⟨b3, 0, none⟩) 2 2), (6, .pointer (some ⟨b4, 0, none⟩)), (7, .pointer (some ⟨b5, 0, none⟩)), (8, .pointer (some ⟨b6, 0, none⟩)), (9, .int .i64 ex1)]) ?_ ?_
 ·rintro a wx14 ⟨Fx5, b6, as7, ns7, cs7, as8, ns8, cs8, hF5, hx15, hs7, hs8, hax1⟩
  refine a1o hax1 ?_
  obtain ⟨⟨f5, f6, f7, f8⟩, hb2, hm⟩ := bind_some hm
  refine c1g (fun a w' => ∃ (Fx6 : Frz) (b7 : Nat) (as9 : Option Addr) (ns9 : Nat) (cs9 : Nat), Frz.le Fx5 Fx6 ∧ HS F w [] Fx6 [.box b7 24 [.int .i64 f5, .int .i64 f6, vs f7, .slice as9 ns9 cs9], .box b6 37 [.int .i64 f1, .slice as7 ns7 cs7, .int .i64 f3, .slice as8 ns8 cs8], .box b5 24 [.int .i64 2, .int .i64 0, vs [], .slice none 0 0], .box b4 24 [.int .i64 4, .int .i64 0, vs [112, 97, 112, 101, 114], .slice none 0 0], .box b2 37 [.int .i64 v2.1.P.Sign, .slice as3 ns3 cs3, .int .i64 v2.1.Q.Sign, .slice as4 ns4 cs4], .box b1 37 [.int .i64 v1.1.P.Sign, .slice as1 ns1 cs1, .int .i64 v1.1.Q.Sign, .slice as2 ns2 cs2]] w' ∧ (SlR rp_Expr Fx6 as9 ns9 cs9 f8) ∧ Has 129 a [(3, .pointer (some ⟨b2, 0, none⟩)), (5, .slice (some ⟨b3, 0, none⟩) 2 2), (7, .pointer (some ⟨b5, 0, none⟩)), (8, .pointer (some ⟨b6, 0, none⟩)), (9, .int .i64 ex1), (10, .pointer (some ⟨b7, 0, none⟩))]) ?_ ?_
  ·rintro a wx15 ⟨Fx6, b7, as9, ns9, cs9, hF6, hx16, hs9, hax2⟩
   refine a1o hax2 ?_
   refine a0f (a0a ?_)
   refine a0p ag24 sz24 rfl rfl hx16 rfl (i := 0) rfl rfl ?_
   refine a2g (v := .agg #[.int .i64 1, .int .i64 0, vs [112, 97, 112, 101, 114], .slice none 0 0]) rfl rfl rfl (fun _ => by kernel_rfl) ?_
   obtain ⟨v4, hv4, hm⟩ := bind_some hm
   refine a0g ent10 rfl rfl rfl rfl hx16 (a2u _ _ _ _ hv4 hx16.sat hs9 (SlR.nil _ _)) ?_
   rintro _ Fx7 _ wx16 hF7 hx17 ⟨as10, ns10, cs10, xss10, rfl, rfl, hs10⟩
   obtain ⟨Fx8, hF8, hx18, hsx2⟩ := a0o hx17 (i := 0) rfl hs10
   obtain ⟨v5, hv5, hm⟩ := bind_some hm
   refine a0g ent9 rfl rfl rfl rfl hx18 (a1s _ _ _ _ hv5 hx18.sat hsx2) ?_
   rintro _ Fx9 _ wx17 hF9 hx19 ⟨as11, ns11, cs11, rfl, rfl, hs11⟩
   refine a0e rfl rfl rfl ?_
   have hG1 := (((hF5.trans hF6).trans hF7).trans hF8).trans hF9
   obtain ⟨v6, hv6, hm⟩ := bind_some hm
   refine a0g ent18 rfl rfl rfl rfl hx19 (a5a _ _ _ _ hv6 hx19.sat hs11 (hsx1.mono hG1)) ?_
   rintro _ Fx10 _ wx18 hF10 hx20 ⟨as12, ns12, cs12, as13, ns13, cs13, rfl, rfl, hs12, hs13⟩
   refine a0e rfl rfl rfl (a0k rfl rfl rfl rfl (a0k rfl rfl rfl rfl ?_))
   refine a1c ze37 rfl rfl rfl hx20 ?_
   intro b8 wx19 hx21
   refine a0r sz37 rfl hx21 rfl rfl rfl rfl (i := 0) rfl rfl rfl rfl ?_
   intro wx20 hx22
   refine a0b rfl rfl rfl (a0c (a0d (a0f (a0a ?_))))
   obtain ⟨v7, hv7, hm⟩ := bind_some hm
   refine a0g ent19 rfl rfl rfl rfl hx22 (a2z _ _ _ hv7 hx22.sat) ?_
   rintro _ Fx11 _ wx21 hF11 hx23 ⟨as14, ns14, cs14, rfl, rfl, hs14⟩
   refine a2g (v := .agg #[.int .i64 4, .int .i64 0, vs [103, 108, 97, 115, 115], .slice none 0 0]) rfl rfl rfl (fun _ => by kernel_rfl) ?_
   obtain ⟨v8, hv8, hm⟩ := bind_some hm
   refine a0g ent10 rfl rfl rfl rfl hx23 (a2u _ _ _ _ hv8 hx23.sat hs14 (SlR.nil _ _)) ?_
   rintro _ Fx12 _ wx22 hF12 hx24 ⟨as15, ns15, cs15, xss15, rfl, rfl, hs15⟩
   obtain ⟨Fx13, hF13, hx25, hsx3⟩ := a0o hx24 (i := 0) rfl hs15
   obtain ⟨v9, hv9, hm⟩ := bind_some hm
   refine a0g ent9 rfl rfl rfl rfl hx25 (a1s _ _ _ _ hv9 hx25.sat hsx3) ?_
   rintro _ Fx14 _ wx23 hF14 hx26 ⟨as16, ns16, cs16, rfl, rfl, hs16⟩
   refine a1c ze24 rfl rfl rfl hx26 ?_
   intro b9 wx24 hx27
   refine a0r sz24 rfl hx27 rfl rfl rfl rfl (i := 0) rfl rfl rfl rfl ?_
   intro wx25 hx28
   refine a0c (a0d ?_)
   obtain ⟨⟨f9, f10, f11, f12⟩, hb3, hm⟩ := bind_some hm
   refine c1g (fun a w' => ∃ (Fx15 : Frz) (b10 : Nat) (as17 : Option Addr) (ns17 : Nat) (cs17 : Nat), Frz.le Fx14 Fx15 ∧ HS F w [] Fx15 [.box b10 24 [.int .i64 f9, .int .i64 f10, vs f11, .slice as17 ns17 cs17], .box b9 24 [.int .i64 v9.Op, .int .i64 v9.N, vs v9.Name, .slice as16 ns16 cs16], .box b8 37 [.int .i64 v6.1.P.Sign, .slice as12 ns12 cs12, .int .i64 v6.1.Q.Sign, .slice as13 ns13 cs13], .box b7 24 [.int .i64 f5, .int .i64 f6, vs f7, .slice as9 ns9 cs9], .box b6 37 [.int .i64 f1, .slice as7 ns7 cs7, .int .i64 f3, .slice as8 ns8 cs8], .box b5 24 [.int .i64 2, .int .i64 0, vs [], .slice none 0 0], .box b4 24 [.int .i64 4, .int .i64 0, vs [112, 97, 112, 101, 114], .slice none 0 0], .box b2 37 [.int .i64 v2.1.P.Sign, .slice as3 ns3 cs3, .int .i64 v2.1.Q.Sign, .slice as4 ns4 cs4], .box b1 37 [.int .i64 v1.1.P.Sign, .slice as1 ns1 cs1, .int .i64 v1.1.Q.Sign, .slice as2 ns2 cs2]] w' ∧ (SlR rp_Expr Fx15 as17 ns17 cs17 f12) ∧ Has 129 a [(3, .pointer (some ⟨b2, 0, none⟩)), (5, .slice (some ⟨b3, 0, none⟩) 2 2), (8, .pointer (some ⟨b6, 0, none⟩)), (9, .int .i64 ex1), (11, .pointer (some ⟨b8, 0, none⟩)), (12, .int .i64 v6.2), (14, .pointer (some ⟨b10, 0, none⟩))]) ?_ ?_
   ·rintro a wx26 ⟨Fx15, b10, as17, ns17, cs17, hF15, hx29, hs17, hax3⟩
    refine a1o hax3 ?_
    refine a0f (a0a ?_)
    refine a0p ag24 sz24 rfl rfl hx29 rfl (i := 0) rfl rfl ?_
    refine a0e rfl rfl rfl ?_
    have hG2 := (((((hG1.trans hF10).trans hF11).trans hF12).trans hF13).trans hF14).trans hF15
    obtain ⟨v10, hv10, hm⟩ := bind_some hm
    refine a0g ent18 rfl rfl rfl rfl hx29 (a5a _ _ _ _ hv10 hx29.sat hs17 (hsx1.mono hG2)) ?_
    rintro _ Fx16 _ wx27 hF16 hx30 ⟨as18, ns18, cs18, as19, ns19, cs19, rfl, rfl, hs18, hs19⟩
    refine a0e rfl rfl rfl (a0k rfl rfl rfl rfl (a0k rfl rfl rfl rfl ?_))
    refine a1c ze37 rfl rfl rfl hx30 ?_
    intro b11 wx28 hx31
    refine a0r sz37 rfl hx31 rfl rfl rfl rfl (i := 0) rfl rfl rfl rfl ?_
    intro wx29 hx32
    refine a0b rfl rfl rfl (a0c (a0d (a0f (a0a ?_))))
    refine a0p ag24 sz24 rfl rfl hx32 rfl (i := 1) rfl rfl ?_
    refine a2g (v := .agg #[vs [97], .int .i64 f9, .int .i64 f10, vs f11, .slice as17 ns17 cs17, .int .i64 5]) rfl rfl rfl (fun _ => by kernel_rfl) ?_
    refine a1a (e := 9) (cs := [vs [112, 97, 112, 101, 114], vs [103, 108, 97, 115, 115]]) (q := 1) rfl rfl hx32 rfl (fun _ => by kernel_rfl) rfl rfl ?_
    intro b12 wx30 hx33
    refine a1a (e := 3) (cs := [.int .i64 4, .int .i64 0]) (q := 1) rfl rfl hx33 rfl (fun _ => by kernel_rfl) rfl rfl ?_
    intro b13 wx31 hx34
    obtain ⟨Fx17, hF17, hx35, hsx4⟩ := a0o hx34 (i := 0) rfl ((show RowN (Rp.int .i64) Fx16 2 [.int .i64 4, .int .i64 0] [4, 0] from ⟨rfl, ⟨_, _, rfl, rfl, ⟨_, _, rfl, rfl, (rfl : RowR (Rp.int .i64) _ [] [])⟩⟩⟩))
    refine a2g (v := .agg #[.slice (some ⟨b13, 0, none⟩) 2 2, .int .i64 3, .int .i64 1]) rfl rfl rfl (fun _ => by kernel_rfl) ?_
    refine a0e rfl rfl rfl ?_
    obtain ⟨Fx18, hF18, hx36, hsx5⟩ := a0o hx35 (i := 0) rfl ((show RowN Rp.str Fx16 2 [vs [112, 97, 112, 101, 114], vs [103, 108, 97, 115, 115]] [[112, 97, 112, 101, 114], [103, 108, 97, 115, 115]] from ⟨rfl, ⟨_, _, rfl, rfl, ⟨_, _, rfl, rfl, (rfl : RowR Rp.str _ [] [])⟩⟩⟩).mono hF17)
    obtain ⟨v11, hv11, hm⟩ := bind_some hm
    refine a0g ent13 rfl rfl rfl rfl hx36 (b8i _ _ _ _ _ _ hv11 hx36.sat (((hs17.mono hF16).mono hF17).mono hF18) hsx5 (hsx4.mono hF18) ((((hsx1.mono hG2).mono hF16).mono hF17).mono hF18)) ?_
    rintro _ Fx19 _ wx32 hF19 hx37 ⟨as20, ns20, cs20, as21, ns21, cs21, rfl, rfl, hs20, hs21⟩
    refine a0e rfl rfl rfl (a0k rfl rfl rfl rfl (a0k rfl rfl rfl rfl ?_))
    refine a1c ze37 rfl rfl rfl hx37 ?_
    intro b14 wx33 hx38
    refine a0r sz37 rfl hx38 rfl rfl rfl rfl (i := 0) rfl rfl rfl rfl ?_
    intro wx34 hx39
    refine a0b rfl rfl rfl (a0c (a0d (a0f (a0a ?_))))
    refine a2g (v := .agg #[.int .i64 4, .int .i64 0, vs [116, 105, 110], .slice none 0 0]) rfl rfl rfl (fun _ => by kernel_rfl) ?_
    refine a0e rfl rfl rfl ?_
    have hG3 := (((hG2.trans hF16).trans hF17).trans hF18).trans hF19
    obtain ⟨v12, hv12, hm⟩ := bind_some hm
    refine a0g ent18 rfl rfl rfl rfl hx39 (a5a _ _ _ _ hv12 hx39.sat (SlR.nil _ _) (hsx1.mono hG3)) ?_
    rintro _ Fx20 _ wx35 hF20 hx40 ⟨as22, ns22, cs22, as23, ns23, cs23, rfl, rfl, hs22, hs23⟩
    refine a0e rfl rfl rfl (a0k rfl rfl rfl rfl (a0k rfl rfl rfl rfl ?_))
    refine a1c ze37 rfl rfl rfl hx40 ?_
    intro b15 wx36 hx41
    refine a0r sz37 rfl hx41 rfl rfl rfl rfl (i := 0) rfl rfl rfl rfl ?_
    intro wx37 hx42
    refine a0b rfl rfl rfl (a0c (a0d (a0f (a0f (a0a (a0e rfl rfl rfl ?_))))))
    refine a0w rfl rfl rfl rfl rfl ?_
    refine a0e rfl rfl rfl ?_
    obtain ⟨v13, hb4, hm⟩ := bind_some hm
    refine a2t 3 (fun a w' => wx37 = w' ∧ Has 129 a [(3, .pointer (some ⟨b2, 0, none⟩)), (8, .pointer (some ⟨b6, 0, none⟩)), (11, .pointer (some ⟨b8, 0, none⟩)), (15, .pointer (some ⟨b11, 0, none⟩)), (16, .int .i64 v10.2), (17, .pointer (some ⟨b14, 0, none⟩)), (18, .int .i64 v11.2), (20, .int .i64 v12.2), (98, .bool v13)]) ?_ ?_
    ·rintro a wx38 ⟨rfl, hax4⟩
     refine a1h hax4 ?_
     refine a0e rfl rfl rfl ?_
     obtain ⟨v14, hb5, hm⟩ := bind_some hm
     refine a2t 3 (fun a w' => wx37 = w' ∧ Has 129 a [(3, .pointer (some ⟨b2, 0, none⟩)), (8, .pointer (some ⟨b6, 0, none⟩)), (11, .pointer (some ⟨b8, 0, none⟩)), (15, .pointer (some ⟨b11, 0, none⟩)), (17, .pointer (some ⟨b14, 0, none⟩)), (18, .int .i64 v11.2), (20, .int .i64 v12.2), (102, .bool v14)]) ?_ ?_
     ·rintro a wx39 ⟨rfl, hax5⟩
      refine a1h hax5 ?_
      refine a0e rfl rfl rfl ?_
      obtain ⟨v15, hb6, hm⟩ := bind_some hm
      refine a2t 3 (fun a w' => wx37 = w' ∧ Has 129 a [(3, .pointer (some ⟨b2, 0, none⟩)), (8, .pointer (some ⟨b6, 0, none⟩)), (11, .pointer (some ⟨b8, 0, none⟩)), (15, .pointer (some ⟨b11, 0, none⟩)), (17, .pointer (some ⟨b14, 0, none⟩)), (20, .int .i64 v12.2), (106, .bool v15)]) ?_ ?_
      ·rintro a wx40 ⟨rfl, hax6⟩
       refine a1h hax6 ?_
       refine a0e rfl rfl rfl ?_
       obtain ⟨v16, hb7, hm⟩ := bind_some hm
       refine a2t 3 (fun a w' => wx37 = w' ∧ Has 129 a [(3, .pointer (some ⟨b2, 0, none⟩)), (8, .pointer (some ⟨b6, 0, none⟩)), (11, .pointer (some ⟨b8, 0, none⟩)), (15, .pointer (some ⟨b11, 0, none⟩)), (17, .pointer (some ⟨b14, 0, none⟩)), (110, .bool v16)]) ?_ ?_
       ·rintro a wx41 ⟨rfl, hax7⟩
        refine a1h hax7 ?_
        refine a0c (a0d ?_)
        rcases a0h hm with ⟨hb8, hm⟩ | ⟨hb8, hm⟩
        ·refine a0v 110 rfl hb8 ?_
         refine a1d rfl (a0f (a0a (a0b rfl rfl rfl (a0c (a0d (a1f (a0m ?_)))))))
         refine a1m rfl rfl ?_
         obtain rfl := Option.some.inj hm
         exact ⟨_, _, _, rfl, hx42.pick [] (by decide) rfl, rfl, rfl⟩
        ·refine a0v 110 rfl hb8 ?_
         refine a0u rfl (a1g (a0d (a0f ?_)))
         refine a2m (SH Fx20 [.box b15 37 [.int .i64 v12.1.P.Sign, .slice as22 ns22 cs22, .int .i64 v12.1.Q.Sign, .slice as23 ns23 cs23], .box b14 37 [.int .i64 v11.1.P.Sign, .slice as20 ns20 cs20, .int .i64 v11.1.Q.Sign, .slice as21 ns21 cs21], .box b11 37 [.int .i64 v10.1.P.Sign, .slice as18 ns18 cs18, .int .i64 v10.1.Q.Sign, .slice as19 ns19 cs19], .box b10 24 [.int .i64 f9, .int .i64 f10, vs f11, .slice as17 ns17 cs17], .box b9 24 [.int .i64 v9.Op, .int .i64 v9.N, vs v9.Name, .slice as16 ns16 cs16], .box b8 37 [.int .i64 v6.1.P.Sign, .slice as12 ns12 cs12, .int .i64 v6.1.Q.Sign, .slice as13 ns13 cs13], .box b7 24 [.int .i64 f5, .int .i64 f6, vs f7, .slice as9 ns9 cs9], .box b6 37 [.int .i64 f1, .slice as7 ns7 cs7, .int .i64 f3, .slice as8 ns8 cs8], .box b5 24 [.int .i64 2, .int .i64 0, vs [], .slice none 0 0], .box b4 24 [.int .i64 4, .int .i64 0, vs [112, 97, 112, 101, 114], .slice none 0 0], .box b2 37 [.int .i64 v2.1.P.Sign, .slice as3 ns3 cs3, .int .i64 v2.1.Q.Sign, .slice as4 ns4 cs4], .box b1 37 [.int .i64 v1.1.P.Sign, .slice as1 ns1 cs1, .int .i64 v1.1.Q.Sign, .slice as2 ns2 cs2]]) 19 rfl (by kernel_rfl) hx42 ?_
         intro wx42 hx43
         refine d_tk 0 rfl (by kernel_rfl) rfl rfl rfl rfl (hx43.sh (Frz.refl _) [0, 1, 2, 3, 4, 5, 6, 7, 8, 9, 10, 11] (by decide) rfl) (fun _ _ _ _ hq => a0p ag37 sz37 rfl rfl hq rfl (i := 7) rfl rfl (a0c (qq rfl))) ?_
         refine d_tk 1 rfl (by kernel_rfl) rfl rfl rfl rfl (hx43.sh (Frz.refl _) [0, 1, 2, 3, 4, 5, 6, 7, 8, 9, 10, 11] (by decide) rfl) (fun _ _ _ _ hq => a0p ag37 sz37 rfl rfl hq rfl (i := 10) rfl rfl (a0c (qq rfl))) ?_
         refine a0l 2 rfl (by kernel_rfl) ?_
         have hG4 := (((((((((((((hF6.trans hF7).trans hF8).trans hF9).trans hF10).trans hF11).trans hF12).trans hF13).trans hF14).trans hF15).trans hF16).trans hF17).trans hF18).trans hF19).trans hF20
         have hG5 := ((((((((((((((((hF3.trans hF4).trans hF5).trans hF6).trans hF7).trans hF8).trans hF9).trans hF10).trans hF11).trans hF12).trans hF13).trans hF14).trans hF15).trans hF16).trans hF17).trans hF18).trans hF19).trans hF20
         obtain ⟨v17, hv13, hm⟩ := bind_some hm
         refine a0g ent11 rfl rfl rfl rfl hx43 (a7f _ _ _ _ hv13 hx43.sat (hs7.mono hG4) (hs8.mono hG4) (hs3.mono hG5) (hs4.mono hG5)) ?_
         rintro _ Fx21 _ wx43 hF21 hx44 ⟨rfl, rfl⟩
         refine a0j (hx44.sh hF21 [0, 1, 2, 3, 4, 5, 6, 7, 8, 9, 10, 11] (by decide) rfl) ?_
         refine d_tk 3 rfl (by kernel_rfl) rfl rfl rfl rfl (hx44.sh hF21 [0, 1, 2, 3, 4, 5, 6, 7, 8, 9, 10, 11] (by decide) rfl) (fun _ _ _ _ _ => a0e rfl rfl rfl (a0c (qq rfl))) ?_
         obtain ⟨v18, hb9, hm⟩ := bind_some hm
         refine c6w (fuel' := 11) (listed' := #[true, true, true, true, true, true, true, true, false, false, false, false, false, false, false, false, false, false, false]) (fun a w' => ∃ (Fx22 : Frz), Frz.le Fx21 Fx22 ∧ HS F w [] Fx22 [.box b15 37 [.int .i64 v12.1.P.Sign, .slice as22 ns22 cs22, .int .i64 v12.1.Q.Sign, .slice as23 ns23 cs23], .box b14 37 [.int .i64 v11.1.P.Sign, .slice as20 ns20 cs20, .int .i64 v11.1.Q.Sign, .slice as21 ns21 cs21], .box b11 37 [.int .i64 v10.1.P.Sign, .slice as18 ns18 cs18, .int .i64 v10.1.Q.Sign, .slice as19 ns19 cs19], .box b10 24 [.int .i64 f9, .int .i64 f10, vs f11, .slice as17 ns17 cs17], .box b9 24 [.int .i64 v9.Op, .int .i64 v9.N, vs v9.Name, .slice as16 ns16 cs16], .box b8 37 [.int .i64 v6.1.P.Sign, .slice as12 ns12 cs12, .int .i64 v6.1.Q.Sign, .slice as13 ns13 cs13], .box b7 24 [.int .i64 f5, .int .i64 f6, vs f7, .slice as9 ns9 cs9], .box b6 37 [.int .i64 f1, .slice as7 ns7 cs7, .int .i64 f3, .slice as8 ns8 cs8], .box b5 24 [.int .i64 2, .int .i64 0, vs [], .slice none 0 0], .box b4 24 [.int .i64 4, .int .i64 0, vs [112, 97, 112, 101, 114], .slice none 0 0], .box b2 37 [.int .i64 v2.1.P.Sign, .slice as3 ns3 cs3, .int .i64 v2.1.Q.Sign, .slice as4 ns4 cs4], .box b1 37 [.int .i64 v1.1.P.Sign, .slice as1 ns1 cs1, .int .i64 v1.1.Q.Sign, .slice as2 ns2 cs2]] w' ∧ Has 129 a [(15, .pointer (some ⟨b11, 0, none⟩)), (17, .pointer (some ⟨b14, 0, none⟩)), (118, .bool v18)]) ?_ (fun hK1 => ?_)
         ·rintro a wx44 ⟨Fx22, hF22, hx45, hax8⟩
          refine b5v hax8 ?_
          refine d_tk 8 rfl (by kernel_rfl) rfl rfl rfl rfl (hx45.sh (hF21.trans hF22) [0, 1, 2, 3, 4, 5, 6, 7, 8, 9, 10, 11] (by decide) rfl) (fun _ _ _ _ _ => a0e rfl rfl rfl (a0c (qq rfl))) ?_
          obtain ⟨v19, hb10, hm⟩ := bind_some hm
          refine c6w (fuel' := 6) (listed' := #[true, true, true, true, true, true, true, true, true, true, true, true, true, false, false, false, false, false, false]) (fun a w' => ∃ (Fx23 : Frz), Frz.le Fx22 Fx23 ∧ HS F w [] Fx23 [.box b15 37 [.int .i64 v12.1.P.Sign, .slice as22 ns22 cs22, .int .i64 v12.1.Q.Sign, .slice as23 ns23 cs23], .box b14 37 [.int .i64 v11.1.P.Sign, .slice as20 ns20 cs20, .int .i64 v11.1.Q.Sign, .slice as21 ns21 cs21], .box b11 37 [.int .i64 v10.1.P.Sign, .slice as18 ns18 cs18, .int .i64 v10.1.Q.Sign, .slice as19 ns19 cs19], .box b10 24 [.int .i64 f9, .int .i64 f10, vs f11, .slice as17 ns17 cs17], .box b9 24 [.int .i64 v9.Op, .int .i64 v9.N, vs v9.Name, .slice as16 ns16 cs16], .box b8 37 [.int .i64 v6.1.P.Sign, .slice as12 ns12 cs12, .int .i64 v6.1.Q.Sign, .slice as13 ns13 cs13], .box b7 24 [.int .i64 f5, .int .i64 f6, vs f7, .slice as9 ns9 cs9], .box b6 37 [.int .i64 f1, .slice as7 ns7 cs7, .int .i64 f3, .slice as8 ns8 cs8], .box b5 24 [.int .i64 2, .int .i64 0, vs [], .slice none 0 0], .box b4 24 [.int .i64 4, .int .i64 0, vs [112, 97, 112, 101, 114], .slice none 0 0], .box b2 37 [.int .i64 v2.1.P.Sign, .slice as3 ns3 cs3, .int .i64 v2.1.Q.Sign, .slice as4 ns4 cs4], .box b1 37 [.int .i64 v1.1.P.Sign, .slice as1 ns1 cs1, .int .i64 v1.1.Q.Sign, .slice as2 ns2 cs2]] w' ∧ Has 129 a [(17, .pointer (some ⟨b14, 0, none⟩)), (123, .bool v19)]) ?_ (fun hK2 => ?_)
          ·rintro a wx45 ⟨Fx23, hF23, hx46, hax9⟩
           refine b5v hax9 ?_
           refine d_tk 13 rfl (by kernel_rfl) rfl rfl rfl rfl (hx46.sh ((hF21.trans hF22).trans hF23) [0, 1, 2, 3, 4, 5, 6, 7, 8, 9, 10, 11] (by decide) rfl) (fun _ _ _ _ _ => a0e rfl rfl rfl (a0c (qq rfl))) ?_
           obtain ⟨v20, hb11, hm⟩ := bind_some hm
           refine c6w (fuel' := 1) (listed' := #[true, true, true, true, true, true, true, true, true, true, true, true, true, true, true, true, true, true, false]) (fun a w' => ∃ (Fx24 : Frz), Frz.le Fx23 Fx24 ∧ HS F w [] Fx24 [.box b15 37 [.int .i64 v12.1.P.Sign, .slice as22 ns22 cs22, .int .i64 v12.1.Q.Sign, .slice as23 ns23 cs23], .box b14 37 [.int .i64 v11.1.P.Sign, .slice as20 ns20 cs20, .int .i64 v11.1.Q.Sign, .slice as21 ns21 cs21], .box b11 37 [.int .i64 v10.1.P.Sign, .slice as18 ns18 cs18, .int .i64 v10.1.Q.Sign, .slice as19 ns19 cs19], .box b10 24 [.int .i64 f9, .int .i64 f10, vs f11, .slice as17 ns17 cs17], .box b9 24 [.int .i64 v9.Op, .int .i64 v9.N, vs v9.Name, .slice as16 ns16 cs16], .box b8 37 [.int .i64 v6.1.P.Sign, .slice as12 ns12 cs12, .int .i64 v6.1.Q.Sign, .slice as13 ns13 cs13], .box b7 24 [.int .i64 f5, .int .i64 f6, vs f7, .slice as9 ns9 cs9], .box b6 37 [.int .i64 f1, .slice as7 ns7 cs7, .int .i64 f3, .slice as8 ns8 cs8], .box b5 24 [.int .i64 2, .int .i64 0, vs [], .slice none 0 0], .box b4 24 [.int .i64 4, .int .i64 0, vs [112, 97, 112, 101, 114], .slice none 0 0], .box b2 37 [.int .i64 v2.1.P.Sign, .slice as3 ns3 cs3, .int .i64 v2.1.Q.Sign, .slice as4 ns4 cs4], .box b1 37 [.int .i64 v1.1.P.Sign, .slice as1 ns1 cs1, .int .i64 v1.1.Q.Sign, .slice as2 ns2 cs2]] w' ∧ Has 129 a [(128, .bool v20)]) ?_ (fun hK3 => ?_)
           ·rintro a wx46 ⟨Fx24, hF24, hx47, hax10⟩
            refine b5v hax10 ?_
            refine d_tk 18 rfl (by kernel_rfl) rfl rfl rfl rfl (hx47.sh (((hF21.trans hF22).trans hF23).trans hF24) [0, 1, 2, 3, 4, 5, 6, 7, 8, 9, 10, 11] (by decide) rfl) (fun _ _ _ _ _ => a0b rfl rfl rfl (a0c (qq rfl))) ?_
            refine a1t (by kernel_rfl) ?_
            refine a0d (a1f ?_)
            refine a1m rfl rfl ?_
            obtain rfl := Option.some.inj hm
            exact ⟨_, _, _, rfl, hx47.pick [] (by decide) rfl, rfl, rfl⟩
           ·clear hm
            rcases a0h hb11 with ⟨hb12, hb11⟩ | ⟨hb12, hb11⟩
            ·refine c0m 124 rfl hb12 ?_
             refine d_tk 14 rfl (by kernel_rfl) rfl rfl rfl rfl (hx46.sh ((hF21.trans hF22).trans hF23) [0, 1, 2, 3, 4, 5, 6, 7, 8, 9, 10, 11] (by decide) rfl) (fun _ _ _ _ hq => a0p ag37 sz37 rfl rfl hq rfl (i := 1) rfl rfl (a0c (qq rfl))) ?_
             refine a0l 15 rfl (by kernel_rfl) ?_
             obtain ⟨v21, hv14, hb11⟩ := bind_some hb11
             refine a0g ent12 rfl rfl rfl rfl hx46 (a5x _ _ _ hv14 hx46.sat) ?_
             rintro _ Fx25 _ wx47 hF25 hx48 ⟨as24, ns24, cs24, as25, ns25, cs25, rfl, rfl, hs24, hs25⟩
             refine a0j (hx48.sh (((hF21.trans hF22).trans hF23).trans hF25) [0, 1, 2, 3, 4, 5, 6, 7, 8, 9, 10, 11] (by decide) rfl) ?_
             refine a0l 16 rfl (by kernel_rfl) ?_
             have hG6 := (((hF20.trans hF21).trans hF22).trans hF23).trans hF25
             obtain ⟨v22, hv15, hb11⟩ := bind_some hb11
             refine a0g ent11 rfl rfl rfl rfl hx48 (a7f _ _ _ _ hv15 hx48.sat (hs20.mono hG6) (hs21.mono hG6) hs24 hs25) ?_
             rintro _ Fx26 _ wx48 hF26 hx49 ⟨rfl, rfl⟩
             refine a0j (hx49.sh ((((hF21.trans hF22).trans hF23).trans hF25).trans hF26) [0, 1, 2, 3, 4, 5, 6, 7, 8, 9, 10, 11] (by decide) rfl) ?_
             refine d_tk 17 rfl (by kernel_rfl) rfl rfl rfl rfl (hx49.sh ((((hF21.trans hF22).trans hF23).trans hF25).trans hF26) [0, 1, 2, 3, 4, 5, 6, 7, 8, 9, 10, 11] (by decide) rfl) (fun _ _ _ _ _ => a0s rfl rfl rfl rfl (a0c (qq rfl))) ?_
             refine c0c hK3 (by kernel_rfl) (fun a ha => ?_)
             cases hb11
             exact ⟨_, (hF25.trans hF26), hx49.pick [0, 1, 2, 3, 4, 5, 6, 7, 8, 9, 10, 11] (by decide) rfl, ha.cut (l := [128]) rfl⟩
            ·refine c0m 124 rfl hb12 ?_
             refine d_of 14 rfl (by kernel_rfl) rfl rfl rfl (hx46.sh ((hF21.trans hF22).trans hF23) [0, 1, 2, 3, 4, 5, 6, 7, 8, 9, 10, 11] (by decide) rfl) ?_
             refine d_of 15 rfl (by kernel_rfl) rfl rfl rfl (hx46.sh ((hF21.trans hF22).trans hF23) [0, 1, 2, 3, 4, 5, 6, 7, 8, 9, 10, 11] (by decide) rfl) ?_
             refine d_of 16 rfl (by kernel_rfl) rfl rfl rfl (hx46.sh ((hF21.trans hF22).trans hF23) [0, 1, 2, 3, 4, 5, 6, 7, 8, 9, 10, 11] (by decide) rfl) ?_
             refine d_tk 17 rfl (by kernel_rfl) rfl rfl rfl rfl (hx46.sh ((hF21.trans hF22).trans hF23) [0, 1, 2, 3, 4, 5, 6, 7, 8, 9, 10, 11] (by decide) rfl) (fun _ _ _ _ _ => a0q rfl rfl rfl rfl (a0c (qq rfl))) ?_
             refine c0c hK3 (by kernel_rfl) (fun a ha => ?_)
             cases hb11
             exact ⟨_, Frz.refl _, hx46.pick [0, 1, 2, 3, 4, 5, 6, 7, 8, 9, 10, 11] (by decide) rfl, ha.cut (l := [128]) rfl⟩
          ·clear hm
           rcases a0h hb10 with ⟨hb13, hb10⟩ | ⟨hb13, hb10⟩
           ·refine c0m 119 rfl hb13 ?_
            refine d_tk 9 rfl (by kernel_rfl) rfl rfl rfl rfl (hx45.sh (hF21.trans hF22) [0, 1, 2, 3, 4, 5, 6, 7, 8, 9, 10, 11] (by decide) rfl) (fun _ _ _ _ hq => a0p ag37 sz37 rfl rfl hq rfl (i := 2) rfl rfl (a0c (qq rfl))) ?_
            refine a0l 10 rfl (by kernel_rfl) ?_
            obtain ⟨v23, hv16, hb10⟩ := bind_some hb10
            refine a0g ent12 rfl rfl rfl rfl hx45 (a5x _ _ _ hv16 hx45.sat) ?_
            rintro _ Fx27 _ wx49 hF27 hx50 ⟨as26, ns26, cs26, as27, ns27, cs27, rfl, rfl, hs26, hs27⟩
            refine a0j (hx50.sh ((hF21.trans hF22).trans hF27) [0, 1, 2, 3, 4, 5, 6, 7, 8, 9, 10, 11] (by decide) rfl) ?_
            refine a0l 11 rfl (by kernel_rfl) ?_
            have hG7 := (((((hF17.trans hF18).trans hF19).trans hF20).trans hF21).trans hF22).trans hF27
            obtain ⟨v24, hv17, hb10⟩ := bind_some hb10
            refine a0g ent11 rfl rfl rfl rfl hx50 (a7f _ _ _ _ hv17 hx50.sat (hs18.mono hG7) (hs19.mono hG7) hs26 hs27) ?_
            rintro _ Fx28 _ wx50 hF28 hx51 ⟨rfl, rfl⟩
            refine a0j (hx51.sh (((hF21.trans hF22).trans hF27).trans hF28) [0, 1, 2, 3, 4, 5, 6, 7, 8, 9, 10, 11] (by decide) rfl) ?_
            refine d_tk 12 rfl (by kernel_rfl) rfl rfl rfl rfl (hx51.sh (((hF21.trans hF22).trans hF27).trans hF28) [0, 1, 2, 3, 4, 5, 6, 7, 8, 9, 10, 11] (by decide) rfl) (fun _ _ _ _ _ => a0s rfl rfl rfl rfl (a0c (qq rfl))) ?_
            refine c0c hK2 (by kernel_rfl) (fun a ha => ?_)
            cases hb10
            exact ⟨_, (hF27.trans hF28), hx51.pick [0, 1, 2, 3, 4, 5, 6, 7, 8, 9, 10, 11] (by decide) rfl, ha.cut (l := [17, 123]) rfl⟩
           ·refine c0m 119 rfl hb13 ?_
            refine d_of 9 rfl (by kernel_rfl) rfl rfl rfl (hx45.sh (hF21.trans hF22) [0, 1, 2, 3, 4, 5, 6, 7, 8, 9, 10, 11] (by decide) rfl) ?_
            refine d_of 10 rfl (by kernel_rfl) rfl rfl rfl (hx45.sh (hF21.trans hF22) [0, 1, 2, 3, 4, 5, 6, 7, 8, 9, 10, 11] (by decide) rfl) ?_
            refine d_of 11 rfl (by kernel_rfl) rfl rfl rfl (hx45.sh (hF21.trans hF22) [0, 1, 2, 3, 4, 5, 6, 7, 8, 9, 10, 11] (by decide) rfl) ?_
            refine d_tk 12 rfl (by kernel_rfl) rfl rfl rfl rfl (hx45.sh (hF21.trans hF22) [0, 1, 2, 3, 4, 5, 6, 7, 8, 9, 10, 11] (by decide) rfl) (fun _ _ _ _ _ => a0q rfl rfl rfl rfl (a0c (qq rfl))) ?_
            refine c0c hK2 (by kernel_rfl) (fun a ha => ?_)
            cases hb10
            exact ⟨_, Frz.refl _, hx45.pick [0, 1, 2, 3, 4, 5, 6, 7, 8, 9, 10, 11] (by decide) rfl, ha.cut (l := [17, 123]) rfl⟩
         ·clear hm
          rcases a0h hb9 with ⟨hb14, hb9⟩ | ⟨hb14, hb9⟩
          ·refine c0m 114 rfl hb14 ?_
           refine d_tk 4 rfl (by kernel_rfl) rfl rfl rfl rfl (hx44.sh hF21 [0, 1, 2, 3, 4, 5, 6, 7, 8, 9, 10, 11] (by decide) rfl) (fun _ _ _ _ hq => a0p ag37 sz37 rfl rfl hq rfl (i := 5) rfl rfl (a0c (qq rfl))) ?_
           refine a0l 5 rfl (by kernel_rfl) ?_
           obtain ⟨v25, hv18, hb9⟩ := bind_some hb9
           refine a0g ent12 rfl rfl rfl rfl hx44 (a5x _ _ _ hv18 hx44.sat) ?_
           rintro _ Fx29 _ wx51 hF29 hx52 ⟨as28, ns28, cs28, as29, ns29, cs29, rfl, rfl, hs28, hs29⟩
           refine a0j (hx52.sh (hF21.trans hF29) [0, 1, 2, 3, 4, 5, 6, 7, 8, 9, 10, 11] (by decide) rfl) ?_
           refine a0l 6 rfl (by kernel_rfl) ?_
           have hG8 := ((((((((((hF11.trans hF12).trans hF13).trans hF14).trans hF15).trans hF16).trans hF17).trans hF18).trans hF19).trans hF20).trans hF21).trans hF29
           obtain ⟨v26, hv19, hb9⟩ := bind_some hb9
           refine a0g ent11 rfl rfl rfl rfl hx52 (a7f _ _ _ _ hv19 hx52.sat (hs12.mono hG8) (hs13.mono hG8) hs28 hs29) ?_
           rintro _ Fx30 _ wx52 hF30 hx53 ⟨rfl, rfl⟩
           refine a0j (hx53.sh ((hF21.trans hF29).trans hF30) [0, 1, 2, 3, 4, 5, 6, 7, 8, 9, 10, 11] (by decide) rfl) ?_
           refine d_tk 7 rfl (by kernel_rfl) rfl rfl rfl rfl (hx53.sh ((hF21.trans hF29).trans hF30) [0, 1, 2, 3, 4, 5, 6, 7, 8, 9, 10, 11] (by decide) rfl) (fun _ _ _ _ _ => a0s rfl rfl rfl rfl (a0c (qq rfl))) ?_
           refine c0c hK1 (by kernel_rfl) (fun a ha => ?_)
           cases hb9
           exact ⟨_, (hF29.trans hF30), hx53.pick [0, 1, 2, 3, 4, 5, 6, 7, 8, 9, 10, 11] (by decide) rfl, ha.cut (l := [15, 17, 118]) rfl⟩
          ·refine c0m 114 rfl hb14 ?_
           refine d_of 4 rfl (by kernel_rfl) rfl rfl rfl (hx44.sh hF21 [0, 1, 2, 3, 4, 5, 6, 7, 8, 9, 10, 11] (by decide) rfl) ?_
           refine d_of 5 rfl (by kernel_rfl) rfl rfl rfl (hx44.sh hF21 [0, 1, 2, 3, 4, 5, 6, 7, 8, 9, 10, 11] (by decide) rfl) ?_
           refine d_of 6 rfl (by kernel_rfl) rfl rfl rfl (hx44.sh hF21 [0, 1, 2, 3, 4, 5, 6, 7, 8, 9, 10, 11] (by decide) rfl) ?_
           refine d_tk 7 rfl (by kernel_rfl) rfl rfl rfl rfl (hx44.sh hF21 [0, 1, 2, 3, 4, 5, 6, 7, 8, 9, 10, 11] (by decide) rfl) (fun _ _ _ _ _ => a0q rfl rfl rfl rfl (a0c (qq rfl))) ?_
           refine c0c hK1 (by kernel_rfl) (fun a ha => ?_)
           cases hb9
           exact ⟨_, Frz.refl _, hx44.pick [0, 1, 2, 3, 4, 5, 6, 7, 8, 9, 10, 11] (by decide) rfl, ha.cut (l := [15, 17, 118]) rfl⟩
       ·clear hm
        rcases a0h hb7 with ⟨hb15, hb7⟩ | ⟨hb15, hb7⟩
        ·refine a1l 107 rfl hb15 ?_
         refine a0z rfl (by decide) rfl (a0z rfl (by decide) rfl (a0s rfl rfl rfl rfl (a0c ?_)))
         refine a0n (fun a ha => ?_)
         cases hb7
         exact ⟨rfl, ha.cut (l := [3, 8, 11, 15, 17, 110]) rfl⟩
        ·refine a1l 107 rfl hb15 ?_
         refine a0e rfl rfl rfl ?_
         refine a0w rfl rfl rfl rfl rfl ?_
         refine a0q rfl rfl rfl rfl (a0c ?_)
         refine a0n (fun a ha => ?_)
         cases hb7
         exact ⟨rfl, ha.cut (l := [3, 8, 11, 15, 17, 110]) rfl⟩
      ·clear hm
       rcases a0h hb6 with ⟨hb16, hb6⟩ | ⟨hb16, hb6⟩
       ·refine a1l 103 rfl hb16 ?_
        refine a0z rfl (by decide) rfl (a0z rfl (by decide) rfl (a0s rfl rfl rfl rfl (a0c ?_)))
        refine a0n (fun a ha => ?_)
        cases hb6
        exact ⟨rfl, ha.cut (l := [3, 8, 11, 15, 17, 20, 106]) rfl⟩
       ·refine a1l 103 rfl hb16 ?_
        refine a0e rfl rfl rfl ?_
        refine a0w rfl rfl rfl rfl rfl ?_
        refine a0q rfl rfl rfl rfl (a0c ?_)
        refine a0n (fun a ha => ?_)
        cases hb6
        exact ⟨rfl, ha.cut (l := [3, 8, 11, 15, 17, 20, 106]) rfl⟩
     ·clear hm
      rcases a0h hb5 with ⟨hb17, hb5⟩ | ⟨hb17, hb5⟩
      ·refine a1l 99 rfl hb17 ?_
       refine a0z rfl (by decide) rfl (a0z rfl (by decide) rfl (a0s rfl rfl rfl rfl (a0c ?_)))
       refine a0n (fun a ha => ?_)
       cases hb5
       exact ⟨rfl, ha.cut (l := [3, 8, 11, 15, 17, 18, 20, 102]) rfl⟩
      ·refine a1l 99 rfl hb17 ?_
       refine a0e rfl rfl rfl ?_
       refine a0w rfl rfl rfl rfl rfl ?_
       refine a0q rfl rfl rfl rfl (a0c ?_)
       refine a0n (fun a ha => ?_)
       cases hb5
       exact ⟨rfl, ha.cut (l := [3, 8, 11, 15, 17, 18, 20, 102]) rfl⟩
    ·clear hm
     rcases a0h hb4 with ⟨hb18, hb4⟩ | ⟨hb18, hb4⟩
     ·refine a1l 95 rfl hb18 ?_
      refine a0z rfl (by decide) rfl (a0z rfl (by decide) rfl (a0s rfl rfl rfl rfl (a0c ?_)))
      refine a0n (fun a ha => ?_)
      cases hb4
      exact ⟨rfl, ha.cut (l := [3, 8, 11, 15, 16, 17, 18, 20, 98]) rfl⟩
     ·refine a1l 95 rfl hb18 ?_
      refine a0e rfl rfl rfl ?_
      refine a0w rfl rfl rfl rfl rfl ?_
      refine a0q rfl rfl rfl rfl (a0c ?_)
      refine a0n (fun a ha => ?_)
      cases hb4
      exact ⟨rfl, ha.cut (l := [3, 8, 11, 15, 16, 17, 18, 20, 98]) rfl⟩
   ·clear hm
    refine a2m (SH Fx14 [.box b9 24 [.int .i64 v9.Op, .int .i64 v9.N, vs v9.Name, .slice as16 ns16 cs16], .box b8 37 [.int .i64 v6.1.P.Sign, .slice as12 ns12 cs12, .int .i64 v6.1.Q.Sign, .slice as13 ns13 cs13], .box b7 24 [.int .i64 f5, .int .i64 f6, vs f7, .slice as9 ns9 cs9], .box b6 37 [.int .i64 f1, .slice as7 ns7 cs7, .int .i64 f3, .slice as8 ns8 cs8], .box b5 24 [.int .i64 2, .int .i64 0, vs [], .slice none 0 0], .box b4 24 [.int .i64 4, .int .i64 0, vs [112, 97, 112, 101, 114], .slice none 0 0], .box b2 37 [.int .i64 v2.1.P.Sign, .slice as3 ns3 cs3, .int .i64 v2.1.Q.Sign, .slice as4 ns4 cs4], .box b1 37 [.int .i64 v1.1.P.Sign, .slice as1 ns1 cs1, .int .i64 v1.1.Q.Sign, .slice as2 ns2 cs2]]) 10 rfl (by kernel_rfl) hx28 ?_
    intro wx53 hx54
    refine d_tk 0 rfl (by kernel_rfl) rfl rfl rfl rfl (hx54.sh (Frz.refl _) [0, 1, 2, 3, 4, 5, 6, 7] (by decide) rfl) (fun _ _ _ _ hq => a0p ag24 sz24 rfl rfl hq rfl (i := 4) rfl rfl (a0c (qq rfl))) ?_
    refine d_tk 5 rfl (by kernel_rfl) rfl rfl rfl rfl (hx54.sh (Frz.refl _) [0, 1, 2, 3, 4, 5, 6, 7] (by decide) rfl) (fun _ _ _ _ hq => a0p ag24 sz24 rfl rfl hq rfl (i := 0) rfl rfl (a0c (qq rfl))) ?_
    refine a4j 1 8 rfl rfl (by kernel_rfl) ?_ ?_
    ·obtain ⟨v27, hv20, hb3⟩ := bind_some hb3
     refine a0g ent19 rfl rfl rfl rfl hx54 (a2z _ _ _ hv20 hx54.sat) ?_
     rintro _ Fx31 _ wx54 hF31 hx55 ⟨as30, ns30, cs30, rfl, rfl, hs30⟩
     refine a0j (hx55.sh hF31 [0, 1, 2, 3, 4, 5, 6, 7] (by decide) rfl) ?_
     refine a4j 2 8 rfl rfl (by kernel_rfl) ?_ ?_
     ·obtain ⟨v28, hv21, hb3⟩ := bind_some hb3
      refine a0g ent10 rfl rfl rfl rfl hx55 (a2u _ _ _ _ hv21 hx55.sat (SlR.nil _ _) hs30) ?_
      rintro _ Fx32 _ wx55 hF32 hx56 ⟨as31, ns31, cs31, xss31, rfl, rfl, hs31⟩
      refine a0j (hx56.sh (hF31.trans hF32) [1, 2, 3, 4, 5, 6, 7, 8] (by decide) rfl) ?_
      refine a4j 3 8 rfl rfl (by kernel_rfl) ?_ ?_
      ·obtain ⟨Fx33, hF33, hx57, hsx6⟩ := a0o hx56 (i := 0) rfl hs31
       obtain ⟨v29, hv22, hb3⟩ := bind_some hb3
       refine a0g ent9 rfl rfl rfl rfl hx57 (a1s _ _ _ _ hv22 hx57.sat hsx6) ?_
       rintro _ Fx34 _ wx56 hF34 hx58 ⟨as32, ns32, cs32, rfl, rfl, hs32⟩
       refine a0j (hx58.sh (((hF31.trans hF32).trans hF33).trans hF34) [0, 1, 2, 3, 4, 5, 6, 7] (by decide) rfl) ?_
       refine a4j 4 8 rfl rfl (by kernel_rfl) ?_ ?_
       ·obtain ⟨v30, hv23, hb3⟩ := bind_some hb3
        refine a0g ent19 rfl rfl rfl rfl hx58 (a2z _ _ _ hv23 hx58.sat) ?_
        rintro _ Fx35 _ wx57 hF35 hx59 ⟨as33, ns33, cs33, rfl, rfl, hs33⟩
        refine a0j (hx59.sh ((((hF31.trans hF32).trans hF33).trans hF34).trans hF35) [0, 1, 2, 3, 4, 5, 6, 7] (by decide) rfl) ?_
        refine a4j 6 8 rfl rfl (by kernel_rfl) ?_ ?_
        ·refine a1a (e := 24) (cs := [.int .i64 v29.Op, .int .i64 v29.N, vs v29.Name, .slice as32 ns32 cs32, .int .i64 v30.Op, .int .i64 v30.N, vs v30.Name, .slice as33 ns33 cs33, .int .i64 v9.Op, .int .i64 v9.N, vs v9.Name, .slice as16 ns16 cs16]) (q := 4) rfl rfl hx59 rfl (fun _ => by kernel_rfl) rfl rfl ?_
         intro b16 wx58 hx60
         refine a0j (hx60.sh ((((hF31.trans hF32).trans hF33).trans hF34).trans hF35) [1, 2, 3, 4, 5, 6, 7, 8] (by decide) rfl) ?_
         refine a4j 7 8 rfl rfl (by kernel_rfl) ?_ ?_
         ·obtain ⟨Fx36, hF36, hx61, hsx7⟩ := a0o hx60 (i := 0) rfl ((show RowN rp_Expr Fx35 3 [.int .i64 v29.Op, .int .i64 v29.N, vs v29.Name, .slice as32 ns32 cs32, .int .i64 v30.Op, .int .i64 v30.N, vs v30.Name, .slice as33 ns33 cs33, .int .i64 v9.Op, .int .i64 v9.N, vs v9.Name, .slice as16 ns16 cs16] [v29, v30, v9] from ⟨rfl, ⟨_, _, rfl, (expr_iff.2 ⟨as32, ns32, cs32, rfl, (hs32.mono hF35)⟩), ⟨_, _, rfl, (expr_iff.2 ⟨as33, ns33, cs33, rfl, hs33⟩), ⟨_, _, rfl, (expr_iff.2 ⟨as16, ns16, cs16, rfl, (((((hs16.mono hF31).mono hF32).mono hF33).mono hF34).mono hF35)⟩), (rfl : RowR rp_Expr _ [] [])⟩⟩⟩⟩))
          obtain ⟨v31, hv24, hb3⟩ := bind_some hb3
          refine a0g ent9 rfl rfl rfl rfl hx61 (a1s _ _ _ _ hv24 hx61.sat hsx7) ?_
          rintro _ Fx37 _ wx59 hF37 hx62 ⟨as34, ns34, cs34, rfl, rfl, hs34⟩
          refine a0j (hx62.sh ((((((hF31.trans hF32).trans hF33).trans hF34).trans hF35).trans hF36).trans hF37) [0, 1, 2, 3, 4, 5, 6, 7] (by decide) rfl) ?_
          refine a0l 8 rfl (by kernel_rfl) ?_
          refine a1c ze24 rfl rfl rfl hx62 ?_
          intro b17 wx60 hx63
          refine a0j (hx63.sh ((((((hF31.trans hF32).trans hF33).trans hF34).trans hF35).trans hF36).trans hF37) [1, 2, 3, 4, 5, 6, 7, 8] (by decide) rfl) ?_
          refine a0l 9 rfl (by kernel_rfl) ?_
          refine a0r sz24 rfl hx63 rfl rfl rfl rfl (i := 0) rfl rfl rfl rfl ?_
          intro wx61 hx64
          refine a0j (hx64.sh ((((((hF31.trans hF32).trans hF33).trans hF34).trans hF35).trans hF36).trans hF37) [1, 2, 3, 4, 5, 6, 7, 8] (by decide) rfl) ?_
          refine a1t (by kernel_rfl) ?_
          refine a0n (fun a ha => ?_)
          cases hb3
          exact ⟨_, b17, as34, ns34, cs34, ((((((hF31.trans hF32).trans hF33).trans hF34).trans hF35).trans hF36).trans hF37), hx64.pick [0, 1, 2, 3, 4, 5, 6, 7, 8] (by decide) rfl, hs34, ha.cut (l := [3, 5, 8, 9, 11, 12, 14]) rfl⟩
         ·refine a1c ze24 rfl rfl rfl hx60 ?_
          intro b17 wx59 hx61
          refine a0j (hx61.sh ((((hF31.trans hF32).trans hF33).trans hF34).trans hF35) [2, 3, 4, 5, 6, 7, 8, 9] (by decide) rfl) ?_
          refine a0l 7 rfl (by kernel_rfl) ?_
          obtain ⟨Fx36, hF36, hx62, hsx7⟩ := a0o hx61 (i := 1) rfl ((show RowN rp_Expr Fx35 3 [.int .i64 v29.Op, .int .i64 v29.N, vs v29.Name, .slice as32 ns32 cs32, .int .i64 v30.Op, .int .i64 v30.N, vs v30.Name, .slice as33 ns33 cs33, .int .i64 v9.Op, .int .i64 v9.N, vs v9.Name, .slice as16 ns16 cs16] [v29, v30, v9] from ⟨rfl, ⟨_, _, rfl, (expr_iff.2 ⟨as32, ns32, cs32, rfl, (hs32.mono hF35)⟩), ⟨_, _, rfl, (expr_iff.2 ⟨as33, ns33, cs33, rfl, hs33⟩), ⟨_, _, rfl, (expr_iff.2 ⟨as16, ns16, cs16, rfl, (((((hs16.mono hF31).mono hF32).mono hF33).mono hF34).mono hF35)⟩), (rfl : RowR rp_Expr _ [] [])⟩⟩⟩⟩))
          obtain ⟨v31, hv24, hb3⟩ := bind_some hb3
          refine a0g ent9 rfl rfl rfl rfl hx62 (a1s _ _ _ _ hv24 hx62.sat hsx7) ?_
          rintro _ Fx37 _ wx60 hF37 hx63 ⟨as34, ns34, cs34, rfl, rfl, hs34⟩
          refine a0j (hx63.sh ((((((hF31.trans hF32).trans hF33).trans hF34).trans hF35).trans hF36).trans hF37) [1, 2, 3, 4, 5, 6, 7, 8] (by decide) rfl) ?_
          refine a0l 9 rfl (by kernel_rfl) ?_
          refine a0r sz24 rfl hx63 rfl rfl rfl rfl (i := 0) rfl rfl rfl rfl ?_
          intro wx61 hx64
          refine a0j (hx64.sh ((((((hF31.trans hF32).trans hF33).trans hF34).trans hF35).trans hF36).trans hF37) [1, 2, 3, 4, 5, 6, 7, 8] (by decide) rfl) ?_
          refine a1t (by kernel_rfl) ?_
          refine a0n (fun a ha => ?_)
          cases hb3
          exact ⟨_, b17, as34, ns34, cs34, ((((((hF31.trans hF32).trans hF33).trans hF34).trans hF35).trans hF36).trans hF37), hx64.pick [0, 1, 2, 3, 4, 5, 6, 7, 8] (by decide) rfl, hs34, ha.cut (l := [3, 5, 8, 9, 11, 12, 14]) rfl⟩
        ·refine a1c ze24 rfl rfl rfl hx59 ?_
         intro b16 wx58 hx60
         refine a0j (hx60.sh ((((hF31.trans hF32).trans hF33).trans hF34).trans hF35) [1, 2, 3, 4, 5, 6, 7, 8] (by decide) rfl) ?_
         refine a0l 6 rfl (by kernel_rfl) ?_
         refine a1a (e := 24) (cs := [.int .i64 v29.Op, .int .i64 v29.N, vs v29.Name, .slice as32 ns32 cs32, .int .i64 v30.Op, .int .i64 v30.N, vs v30.Name, .slice as33 ns33 cs33, .int .i64 v9.Op, .int .i64 v9.N, vs v9.Name, .slice as16 ns16 cs16]) (q := 4) rfl rfl hx60 rfl (fun _ => by kernel_rfl) rfl rfl ?_
         intro b17 wx59 hx61
         refine a0j (hx61.sh ((((hF31.trans hF32).trans hF33).trans hF34).trans hF35) [2, 3, 4, 5, 6, 7, 8, 9] (by decide) rfl) ?_
         refine a0l 7 rfl (by kernel_rfl) ?_
         obtain ⟨Fx36, hF36, hx62, hsx7⟩ := a0o hx61 (i := 0) rfl ((show RowN rp_Expr Fx35 3 [.int .i64 v29.Op, .int .i64 v29.N, vs v29.Name, .slice as32 ns32 cs32, .int .i64 v30.Op, .int .i64 v30.N, vs v30.Name, .slice as33 ns33 cs33, .int .i64 v9.Op, .int .i64 v9.N, vs v9.Name, .slice as16 ns16 cs16] [v29, v30, v9] from ⟨rfl, ⟨_, _, rfl, (expr_iff.2 ⟨as32, ns32, cs32, rfl, (hs32.mono hF35)⟩), ⟨_, _, rfl, (expr_iff.2 ⟨as33, ns33, cs33, rfl, hs33⟩), ⟨_, _, rfl, (expr_iff.2 ⟨as16, ns16, cs16, rfl, (((((hs16.mono hF31).mono hF32).mono hF33).mono hF34).mono hF35)⟩), (rfl : RowR rp_Expr _ [] [])⟩⟩⟩⟩))
         obtain ⟨v31, hv24, hb3⟩ := bind_some hb3
         refine a0g ent9 rfl rfl rfl rfl hx62 (a1s _ _ _ _ hv24 hx62.sat hsx7) ?_
         rintro _ Fx37 _ wx60 hF37 hx63 ⟨as34, ns34, cs34, rfl, rfl, hs34⟩
         refine a0j (hx63.sh ((((((hF31.trans hF32).trans hF33).trans hF34).trans hF35).trans hF36).trans hF37) [1, 2, 3, 4, 5, 6, 7, 8] (by decide) rfl) ?_
         refine a0l 9 rfl (by kernel_rfl) ?_
         refine a0r sz24 rfl hx63 rfl rfl rfl rfl (i := 0) rfl rfl rfl rfl ?_
         intro wx61 hx64
         refine a0j (hx64.sh ((((((hF31.trans hF32).trans hF33).trans hF34).trans hF35).trans hF36).trans hF37) [1, 2, 3, 4, 5, 6, 7, 8] (by decide) rfl) ?_
         refine a1t (by kernel_rfl) ?_
         refine a0n (fun a ha => ?_)
         cases hb3
         exact ⟨_, b16, as34, ns34, cs34, ((((((hF31.trans hF32).trans hF33).trans hF34).trans hF35).trans hF36).trans hF37), hx64.pick [0, 1, 2, 3, 4, 5, 6, 7, 8] (by decide) rfl, hs34, ha.cut (l := [3, 5, 8, 9, 11, 12, 14]) rfl⟩
       ·refine a1c ze24 rfl rfl rfl hx58 ?_
        intro b16 wx57 hx59
        refine a0j (hx59.sh (((hF31.trans hF32).trans hF33).trans hF34) [1, 2, 3, 4, 5, 6, 7, 8] (by decide) rfl) ?_
        refine a0l 4 rfl (by kernel_rfl) ?_
        obtain ⟨v30, hv23, hb3⟩ := bind_some hb3
        refine a0g ent19 rfl rfl rfl rfl hx59 (a2z _ _ _ hv23 hx59.sat) ?_
        rintro _ Fx35 _ wx58 hF35 hx60 ⟨as33, ns33, cs33, rfl, rfl, hs33⟩
        refine a0j (hx60.sh ((((hF31.trans hF32).trans hF33).trans hF34).trans hF35) [1, 2, 3, 4, 5, 6, 7, 8] (by decide) rfl) ?_
        refine a0l 6 rfl (by kernel_rfl) ?_
        refine a1a (e := 24) (cs := [.int .i64 v29.Op, .int .i64 v29.N, vs v29.Name, .slice as32 ns32 cs32, .int .i64 v30.Op, .int .i64 v30.N, vs v30.Name, .slice as33 ns33 cs33, .int .i64 v9.Op, .int .i64 v9.N, vs v9.Name, .slice as16 ns16 cs16]) (q := 4) rfl rfl hx60 rfl (fun _ => by kernel_rfl) rfl rfl ?_
        intro b17 wx59 hx61
        refine a0j (hx61.sh ((((hF31.trans hF32).trans hF33).trans hF34).trans hF35) [2, 3, 4, 5, 6, 7, 8, 9] (by decide) rfl) ?_
        refine a0l 7 rfl (by kernel_rfl) ?_
        obtain ⟨Fx36, hF36, hx62, hsx7⟩ := a0o hx61 (i := 0) rfl ((show RowN rp_Expr Fx35 3 [.int .i64 v29.Op, .int .i64 v29.N, vs v29.Name, .slice as32 ns32 cs32, .int .i64 v30.Op, .int .i64 v30.N, vs v30.Name, .slice as33 ns33 cs33, .int .i64 v9.Op, .int .i64 v9.N, vs v9.Name, .slice as16 ns16 cs16] [v29, v30, v9] from ⟨rfl, ⟨_, _, rfl, (expr_iff.2 ⟨as32, ns32, cs32, rfl, (hs32.mono hF35)⟩), ⟨_, _, rfl, (expr_iff.2 ⟨as33, ns33, cs33, rfl, hs33⟩), ⟨_, _, rfl, (expr_iff.2 ⟨as16, ns16, cs16, rfl, (((((hs16.mono hF31).mono hF32).mono hF33).mono hF34).mono hF35)⟩), (rfl : RowR rp_Expr _ [] [])⟩⟩⟩⟩))
        obtain ⟨v31, hv24, hb3⟩ := bind_some hb3
        refine a0g ent9 rfl rfl rfl rfl hx62 (a1s _ _ _ _ hv24 hx62.sat hsx7) ?_
        rintro _ Fx37 _ wx60 hF37 hx63 ⟨as34, ns34, cs34, rfl, rfl, hs34⟩
        refine a0j (hx63.sh ((((((hF31.trans hF32).trans hF33).trans hF34).trans hF35).trans hF36).trans hF37) [1, 2, 3, 4, 5, 6, 7, 8] (by decide) rfl) ?_
        refine a0l 9 rfl (by kernel_rfl) ?_
        refine a0r sz24 rfl hx63 rfl rfl rfl rfl (i := 0) rfl rfl rfl rfl ?_
        intro wx61 hx64
        refine a0j (hx64.sh ((((((hF31.trans hF32).trans hF33).trans hF34).trans hF35).trans hF36).trans hF37) [1, 2, 3, 4, 5, 6, 7, 8] (by decide) rfl) ?_
        refine a1t (by kernel_rfl) ?_
        refine a0n (fun a ha => ?_)
        cases hb3
        exact ⟨_, b16, as34, ns34, cs34, ((((((hF31.trans hF32).trans hF33).trans hF34).trans hF35).trans hF36).trans hF37), hx64.pick [0, 1, 2, 3, 4, 5, 6, 7, 8] (by decide) rfl, hs34, ha.cut (l := [3, 5, 8, 9, 11, 12, 14]) rfl⟩
      ·refine a1c ze24 rfl rfl rfl hx56 ?_
       intro b16 wx56 hx57
       refine a0j (hx57.sh (hF31.trans hF32) [2, 3, 4, 5, 6, 7, 8, 9] (by decide) rfl) ?_
       refine a0l 3 rfl (by kernel_rfl) ?_
       obtain ⟨Fx33, hF33, hx58, hsx6⟩ := a0o hx57 (i := 1) rfl hs31
       obtain ⟨v29, hv22, hb3⟩ := bind_some hb3
       refine a0g ent9 rfl rfl rfl rfl hx58 (a1s _ _ _ _ hv22 hx58.sat hsx6) ?_
       rintro _ Fx34 _ wx57 hF34 hx59 ⟨as32, ns32, cs32, rfl, rfl, hs32⟩
       refine a0j (hx59.sh (((hF31.trans hF32).trans hF33).trans hF34) [1, 2, 3, 4, 5, 6, 7, 8] (by decide) rfl) ?_
       refine a0l 4 rfl (by kernel_rfl) ?_
       obtain ⟨v30, hv23, hb3⟩ := bind_some hb3
       refine a0g ent19 rfl rfl rfl rfl hx59 (a2z _ _ _ hv23 hx59.sat) ?_
       rintro _ Fx35 _ wx58 hF35 hx60 ⟨as33, ns33, cs33, rfl, rfl, hs33⟩
       refine a0j (hx60.sh ((((hF31.trans hF32).trans hF33).trans hF34).trans hF35) [1, 2, 3, 4, 5, 6, 7, 8] (by decide) rfl) ?_
       refine a0l 6 rfl (by kernel_rfl) ?_
       refine a1a (e := 24) (cs := [.int .i64 v29.Op, .int .i64 v29.N, vs v29.Name, .slice as32 ns32 cs32, .int .i64 v30.Op, .int .i64 v30.N, vs v30.Name, .slice as33 ns33 cs33, .int .i64 v9.Op, .int .i64 v9.N, vs v9.Name, .slice as16 ns16 cs16]) (q := 4) rfl rfl hx60 rfl (fun _ => by kernel_rfl) rfl rfl ?_
       intro b17 wx59 hx61
       refine a0j (hx61.sh ((((hF31.trans hF32).trans hF33).trans hF34).trans hF35) [2, 3, 4, 5, 6, 7, 8, 9] (by decide) rfl) ?_
       refine a0l 7 rfl (by kernel_rfl) ?_
       obtain ⟨Fx36, hF36, hx62, hsx7⟩ := a0o hx61 (i := 0) rfl ((show RowN rp_Expr Fx35 3 [.int .i64 v29.Op, .int .i64 v29.N, vs v29.Name, .slice as32 ns32 cs32, .int .i64 v30.Op, .int .i64 v30.N, vs v30.Name, .slice as33 ns33 cs33, .int .i64 v9.Op, .int .i64 v9.N, vs v9.Name, .slice as16 ns16 cs16] [v29, v30, v9] from ⟨rfl, ⟨_, _, rfl, (expr_iff.2 ⟨as32, ns32, cs32, rfl, (hs32.mono hF35)⟩), ⟨_, _, rfl, (expr_iff.2 ⟨as33, ns33, cs33, rfl, hs33⟩), ⟨_, _, rfl, (expr_iff.2 ⟨as16, ns16, cs16, rfl, (((((hs16.mono hF31).mono hF32).mono hF33).mono hF34).mono hF35)⟩), (rfl : RowR rp_Expr _ [] [])⟩⟩⟩⟩))
       obtain ⟨v31, hv24, hb3⟩ := bind_some hb3
       refine a0g ent9 rfl rfl rfl rfl hx62 (a1s _ _ _ _ hv24 hx62.sat hsx7) ?_
       rintro _ Fx37 _ wx60 hF37 hx63 ⟨as34, ns34, cs34, rfl, rfl, hs34⟩
       refine a0j (hx63.sh ((((((hF31.trans hF32).trans hF33).trans hF34).trans hF35).trans hF36).trans hF37) [1, 2, 3, 4, 5, 6, 7, 8] (by decide) rfl) ?_
       refine a0l 9 rfl (by kernel_rfl) ?_
       refine a0r sz24 rfl hx63 rfl rfl rfl rfl (i := 0) rfl rfl rfl rfl ?_
       intro wx61 hx64
       refine a0j (hx64.sh ((((((hF31.trans hF32).trans hF33).trans hF34).trans hF35).trans hF36).trans hF37) [1, 2, 3, 4, 5, 6, 7, 8] (by decide) rfl) ?_
       refine a1t (by kernel_rfl) ?_
       refine a0n (fun a ha => ?_)
       cases hb3
       exact ⟨_, b16, as34, ns34, cs34, ((((((hF31.trans hF32).trans hF33).trans hF34).trans hF35).trans hF36).trans hF37), hx64.pick [0, 1, 2, 3, 4, 5, 6, 7, 8] (by decide) rfl, hs34, ha.cut (l := [3, 5, 8, 9, 11, 12, 14]) rfl⟩
     ·refine a1c ze24 rfl rfl rfl hx55 ?_
      intro b16 wx55 hx56
      refine a0j (hx56.sh hF31 [1, 2, 3, 4, 5, 6, 7, 8] (by decide) rfl) ?_
      refine a0l 2 rfl (by kernel_rfl) ?_
      obtain ⟨v28, hv21, hb3⟩ := bind_some hb3
      refine a0g ent10 rfl rfl rfl rfl hx56 (a2u _ _ _ _ hv21 hx56.sat (SlR.nil _ _) hs30) ?_
      rintro _ Fx32 _ wx56 hF32 hx57 ⟨as31, ns31, cs31, xss31, rfl, rfl, hs31⟩
      refine a0j (hx57.sh (hF31.trans hF32) [2, 3, 4, 5, 6, 7, 8, 9] (by decide) rfl) ?_
      refine a0l 3 rfl (by kernel_rfl) ?_
      obtain ⟨Fx33, hF33, hx58, hsx6⟩ := a0o hx57 (i := 0) rfl hs31
      obtain ⟨v29, hv22, hb3⟩ := bind_some hb3
      refine a0g ent9 rfl rfl rfl rfl hx58 (a1s _ _ _ _ hv22 hx58.sat hsx6) ?_
      rintro _ Fx34 _ wx57 hF34 hx59 ⟨as32, ns32, cs32, rfl, rfl, hs32⟩
      refine a0j (hx59.sh (((hF31.trans hF32).trans hF33).trans hF34) [1, 2, 3, 4, 5, 6, 7, 8] (by decide) rfl) ?_
      refine a0l 4 rfl (by kernel_rfl) ?_
      obtain ⟨v30, hv23, hb3⟩ := bind_some hb3
      refine a0g ent19 rfl rfl rfl rfl hx59 (a2z _ _ _ hv23 hx59.sat) ?_
      rintro _ Fx35 _ wx58 hF35 hx60 ⟨as33, ns33, cs33, rfl, rfl, hs33⟩
      refine a0j (hx60.sh ((((hF31.trans hF32).trans hF33).trans hF34).trans hF35) [1, 2, 3, 4, 5, 6, 7, 8] (by decide) rfl) ?_
      refine a0l 6 rfl (by kernel_rfl) ?_
      refine a1a (e := 24) (cs := [.int .i64 v29.Op, .int .i64 v29.N, vs v29.Name, .slice as32 ns32 cs32, .int .i64 v30.Op, .int .i64 v30.N, vs v30.Name, .slice as33 ns33 cs33, .int .i64 v9.Op, .int .i64 v9.N, vs v9.Name, .slice as16 ns16 cs16]) (q := 4) rfl rfl hx60 rfl (fun _ => by kernel_rfl) rfl rfl ?_
      intro b17 wx59 hx61
      refine a0j (hx61.sh ((((hF31.trans hF32).trans hF33).trans hF34).trans hF35) [2, 3, 4, 5, 6, 7, 8, 9] (by decide) rfl) ?_
      refine a0l 7 rfl (by kernel_rfl) ?_
      obtain ⟨Fx36, hF36, hx62, hsx7⟩ := a0o hx61 (i := 0) rfl ((show RowN rp_Expr Fx35 3 [.int .i64 v29.Op, .int .i64 v29.N, vs v29.Name, .slice as32 ns32 cs32, .int .i64 v30.Op, .int .i64 v30.N, vs v30.Name, .slice as33 ns33 cs33, .int .i64 v9.Op, .int .i64 v9.N, vs v9.Name, .slice as16 ns16 cs16] [v29, v30, v9] from ⟨rfl, ⟨_, _, rfl, (expr_iff.2 ⟨as32, ns32, cs32, rfl, (hs32.mono hF35)⟩), ⟨_, _, rfl, (expr_iff.2 ⟨as33, ns33, cs33, rfl, hs33⟩), ⟨_, _, rfl, (expr_iff.2 ⟨as16, ns16, cs16, rfl, (((((hs16.mono hF31).mono hF32).mono hF33).mono hF34).mono hF35)⟩), (rfl : RowR rp_Expr _ [] [])⟩⟩⟩⟩))
      obtain ⟨v31, hv24, hb3⟩ := bind_some hb3
      refine a0g ent9 rfl rfl rfl rfl hx62 (a1s _ _ _ _ hv24 hx62.sat hsx7) ?_
      rintro _ Fx37 _ wx60 hF37 hx63 ⟨as34, ns34, cs34, rfl, rfl, hs34⟩
      refine a0j (hx63.sh ((((((hF31.trans hF32).trans hF33).trans hF34).trans hF35).trans hF36).trans hF37) [1, 2, 3, 4, 5, 6, 7, 8] (by decide) rfl) ?_
      refine a0l 9 rfl (by kernel_rfl) ?_
      refine a0r sz24 rfl hx63 rfl rfl rfl rfl (i := 0) rfl rfl rfl rfl ?_
      intro wx61 hx64
      refine a0j (hx64.sh ((((((hF31.trans hF32).trans hF33).trans hF34).trans hF35).trans hF36).trans hF37) [1, 2, 3, 4, 5, 6, 7, 8] (by decide) rfl) ?_
      refine a1t (by kernel_rfl) ?_
      refine a0n (fun a ha => ?_)
      cases hb3
      exact ⟨_, b16, as34, ns34, cs34, ((((((hF31.trans hF32).trans hF33).trans hF34).trans hF35).trans hF36).trans hF37), hx64.pick [0, 1, 2, 3, 4, 5, 6, 7, 8] (by decide) rfl, hs34, ha.cut (l := [3, 5, 8, 9, 11, 12, 14]) rfl⟩
    ·refine a1c ze24 rfl rfl rfl hx54 ?_
     intro b16 wx54 hx55
     refine a0j (hx55.sh (Frz.refl _) [1, 2, 3, 4, 5, 6, 7, 8] (by decide) rfl) ?_
     refine a0l 1 rfl (by kernel_rfl) ?_
     obtain ⟨v27, hv20, hb3⟩ := bind_some hb3
     refine a0g ent19 rfl rfl rfl rfl hx55 (a2z _ _ _ hv20 hx55.sat) ?_
     rintro _ Fx31 _ wx55 hF31 hx56 ⟨as30, ns30, cs30, rfl, rfl, hs30⟩
     refine a0j (hx56.sh hF31 [1, 2, 3, 4, 5, 6, 7, 8] (by decide) rfl) ?_
     refine a0l 2 rfl (by kernel_rfl) ?_
     obtain ⟨v28, hv21, hb3⟩ := bind_some hb3
     refine a0g ent10 rfl rfl rfl rfl hx56 (a2u _ _ _ _ hv21 hx56.sat (SlR.nil _ _) hs30) ?_
     rintro _ Fx32 _ wx56 hF32 hx57 ⟨as31, ns31, cs31, xss31, rfl, rfl, hs31⟩
     refine a0j (hx57.sh (hF31.trans hF32) [2, 3, 4, 5, 6, 7, 8, 9] (by decide) rfl) ?_
     refine a0l 3 rfl (by kernel_rfl) ?_
     obtain ⟨Fx33, hF33, hx58, hsx6⟩ := a0o hx57 (i := 0) rfl hs31
     obtain ⟨v29, hv22, hb3⟩ := bind_some hb3
     refine a0g ent9 rfl rfl rfl rfl hx58 (a1s _ _ _ _ hv22 hx58.sat hsx6) ?_
     rintro _ Fx34 _ wx57 hF34 hx59 ⟨as32, ns32, cs32, rfl, rfl, hs32⟩
     refine a0j (hx59.sh (((hF31.trans hF32).trans hF33).trans hF34) [1, 2, 3, 4, 5, 6, 7, 8] (by decide) rfl) ?_
     refine a0l 4 rfl (by kernel_rfl) ?_
     obtain ⟨v30, hv23, hb3⟩ := bind_some hb3
     refine a0g ent19 rfl rfl rfl rfl hx59 (a2z _ _ _ hv23 hx59.sat) ?_
     rintro _ Fx35 _ wx58 hF35 hx60 ⟨as33, ns33, cs33, rfl, rfl, hs33⟩
     refine a0j (hx60.sh ((((hF31.trans hF32).trans hF33).trans hF34).trans hF35) [1, 2, 3, 4, 5, 6, 7, 8] (by decide) rfl) ?_
     refine a0l 6 rfl (by kernel_rfl) ?_
     refine a1a (e := 24) (cs := [.int .i64 v29.Op, .int .i64 v29.N, vs v29.Name, .slice as32 ns32 cs32, .int .i64 v30.Op, .int .i64 v30.N, vs v30.Name, .slice as33 ns33 cs33, .int .i64 v9.Op, .int .i64 v9.N, vs v9.Name, .slice as16 ns16 cs16]) (q := 4) rfl rfl hx60 rfl (fun _ => by kernel_rfl) rfl rfl ?_
     intro b17 wx59 hx61
     refine a0j (hx61.sh ((((hF31.trans hF32).trans hF33).trans hF34).trans hF35) [2, 3, 4, 5, 6, 7, 8, 9] (by decide) rfl) ?_
     refine a0l 7 rfl (by kernel_rfl) ?_
     obtain ⟨Fx36, hF36, hx62, hsx7⟩ := a0o hx61 (i := 0) rfl ((show RowN rp_Expr Fx35 3 [.int .i64 v29.Op, .int .i64 v29.N, vs v29.Name, .slice as32 ns32 cs32, .int .i64 v30.Op, .int .i64 v30.N, vs v30.Name, .slice as33 ns33 cs33, .int .i64 v9.Op, .int .i64 v9.N, vs v9.Name, .slice as16 ns16 cs16] [v29, v30, v9] from ⟨rfl, ⟨_, _, rfl, (expr_iff.2 ⟨as32, ns32, cs32, rfl, (hs32.mono hF35)⟩), ⟨_, _, rfl, (expr_iff.2 ⟨as33, ns33, cs33, rfl, hs33⟩), ⟨_, _, rfl, (expr_iff.2 ⟨as16, ns16, cs16, rfl, (((((hs16.mono hF31).mono hF32).mono hF33).mono hF34).mono hF35)⟩), (rfl : RowR rp_Expr _ [] [])⟩⟩⟩⟩))
     obtain ⟨v31, hv24, hb3⟩ := bind_some hb3
     refine a0g ent9 rfl rfl rfl rfl hx62 (a1s _ _ _ _ hv24 hx62.sat hsx7) ?_
     rintro _ Fx37 _ wx60 hF37 hx63 ⟨as34, ns34, cs34, rfl, rfl, hs34⟩
     refine a0j (hx63.sh ((((((hF31.trans hF32).trans hF33).trans hF34).trans hF35).trans hF36).trans hF37) [1, 2, 3, 4, 5, 6, 7, 8] (by decide) rfl) ?_
     refine a0l 9 rfl (by kernel_rfl) ?_
     refine a0r sz24 rfl hx63 rfl rfl rfl rfl (i := 0) rfl rfl rfl rfl ?_
     intro wx61 hx64
     refine a0j (hx64.sh ((((((hF31.trans hF32).trans hF33).trans hF34).trans hF35).trans hF36).trans hF37) [1, 2, 3, 4, 5, 6, 7, 8] (by decide) rfl) ?_
     refine a1t (by kernel_rfl) ?_
     refine a0n (fun a ha => ?_)
     cases hb3
     exact ⟨_, b16, as34, ns34, cs34, ((((((hF31.trans hF32).trans hF33).trans hF34).trans hF35).trans hF36).trans hF37), hx64.pick [0, 1, 2, 3, 4, 5, 6, 7, 8] (by decide) rfl, hs34, ha.cut (l := [3, 5, 8, 9, 11, 12, 14]) rfl⟩
  ·clear hm
   refine a2m (SH Fx5 [.box b6 37 [.int .i64 f1, .slice as7 ns7 cs7, .int .i64 f3, .slice as8 ns8 cs8], .box b5 24 [.int .i64 2, .int .i64 0, vs [], .slice none 0 0], .box b4 24 [.int .i64 4, .int .i64 0, vs [112, 97, 112, 101, 114], .slice none 0 0], .box b2 37 [.int .i64 v2.1.P.Sign, .slice as3 ns3 cs3, .int .i64 v2.1.Q.Sign, .slice as4 ns4 cs4], .box b1 37 [.int .i64 v1.1.P.Sign, .slice as1 ns1 cs1, .int .i64 v1.1.Q.Sign, .slice as2 ns2 cs2]]) 9 rfl (by kernel_rfl) hx15 ?_
   intro wx62 hx65
   refine d_tk 0 rfl (by kernel_rfl) rfl rfl rfl rfl (hx65.sh (Frz.refl _) [0, 1, 2, 3, 4] (by decide) rfl) (fun _ _ _ _ hq => a0p ag24 sz24 rfl rfl hq rfl (i := 2) rfl rfl (a0c (qq rfl))) ?_
   refine d_tk 2 rfl (by kernel_rfl) rfl rfl rfl rfl (hx65.sh (Frz.refl _) [0, 1, 2, 3, 4] (by decide) rfl) (fun _ _ _ _ hq => a0p ag24 sz24 rfl rfl hq rfl (i := 1) rfl rfl (a0c (qq rfl))) ?_
   refine a4j 1 7 rfl rfl (by kernel_rfl) ?_ ?_
   ·obtain ⟨v32, hv25, hb2⟩ := bind_some hb2
    refine a0g ent19 rfl rfl rfl rfl hx65 (a2z _ _ _ hv25 hx65.sat) ?_
    rintro _ Fx38 _ wx63 hF38 hx66 ⟨as35, ns35, cs35, rfl, rfl, hs35⟩
    refine a0j (hx66.sh hF38 [0, 1, 2, 3, 4] (by decide) rfl) ?_
    refine a4j 3 7 rfl rfl (by kernel_rfl) ?_ ?_
    ·obtain ⟨v33, hv26, hb2⟩ := bind_some hb2
     refine a0g ent10 rfl rfl rfl rfl hx66 (a2u _ _ _ _ hv26 hx66.sat hs35 (SlR.nil _ _)) ?_
     rintro _ Fx39 _ wx64 hF39 hx67 ⟨as36, ns36, cs36, xss36, rfl, rfl, hs36⟩
     refine a0j (hx67.sh (hF38.trans hF39) [1, 2, 3, 4, 5] (by decide) rfl) ?_
     refine a4j 4 7 rfl rfl (by kernel_rfl) ?_ ?_
     ·obtain ⟨Fx40, hF40, hx68, hsx8⟩ := a0o hx67 (i := 0) rfl hs36
      obtain ⟨v34, hv27, hb2⟩ := bind_some hb2
      refine a0g ent9 rfl rfl rfl rfl hx68 (a1s _ _ _ _ hv27 hx68.sat hsx8) ?_
      rintro _ Fx41 _ wx65 hF41 hx69 ⟨as37, ns37, cs37, rfl, rfl, hs37⟩
      refine a0j (hx69.sh (((hF38.trans hF39).trans hF40).trans hF41) [0, 1, 2, 3, 4] (by decide) rfl) ?_
      refine a4j 5 7 rfl rfl (by kernel_rfl) ?_ ?_
      ·obtain ⟨v35, hv28, hb2⟩ := bind_some hb2
       refine a0g ent10 rfl rfl rfl rfl hx69 (a2u _ _ _ _ hv28 hx69.sat (SlR.nil _ _) hs37) ?_
       rintro _ Fx42 _ wx66 hF42 hx70 ⟨as38, ns38, cs38, xss38, rfl, rfl, hs38⟩
       refine a0j (hx70.sh ((((hF38.trans hF39).trans hF40).trans hF41).trans hF42) [1, 2, 3, 4, 5] (by decide) rfl) ?_
       refine a4j 6 7 rfl rfl (by kernel_rfl) ?_ ?_
       ·obtain ⟨Fx43, hF43, hx71, hsx9⟩ := a0o hx70 (i := 0) rfl hs38
        obtain ⟨v36, hv29, hb2⟩ := bind_some hb2
        refine a0g ent9 rfl rfl rfl rfl hx71 (a1s _ _ _ _ hv29 hx71.sat hsx9) ?_
        rintro _ Fx44 _ wx67 hF44 hx72 ⟨as39, ns39, cs39, rfl, rfl, hs39⟩
        refine a0j (hx72.sh ((((((hF38.trans hF39).trans hF40).trans hF41).trans hF42).trans hF43).trans hF44) [0, 1, 2, 3, 4] (by decide) rfl) ?_
        refine a0l 7 rfl (by kernel_rfl) ?_
        refine a1c ze24 rfl rfl rfl hx72 ?_
        intro b18 wx68 hx73
        refine a0j (hx73.sh ((((((hF38.trans hF39).trans hF40).trans hF41).trans hF42).trans hF43).trans hF44) [1, 2, 3, 4, 5] (by decide) rfl) ?_
        refine a0l 8 rfl (by kernel_rfl) ?_
        refine a0r sz24 rfl hx73 rfl rfl rfl rfl (i := 0) rfl rfl rfl rfl ?_
        intro wx69 hx74
        refine a0j (hx74.sh ((((((hF38.trans hF39).trans hF40).trans hF41).trans hF42).trans hF43).trans hF44) [1, 2, 3, 4, 5] (by decide) rfl) ?_
        refine a1t (by kernel_rfl) ?_
        refine a0n (fun a ha => ?_)
        cases hb2
        exact ⟨_, b18, as39, ns39, cs39, ((((((hF38.trans hF39).trans hF40).trans hF41).trans hF42).trans hF43).trans hF44), hx74.pick [0, 1, 2, 3, 4, 5] (by decide) rfl, hs39, ha.cut (l := [3, 5, 7, 8, 9, 10]) rfl⟩
       ·refine a1c ze24 rfl rfl rfl hx70 ?_
        intro b18 wx67 hx71
        refine a0j (hx71.sh ((((hF38.trans hF39).trans hF40).trans hF41).trans hF42) [2, 3, 4, 5, 6] (by decide) rfl) ?_
        refine a0l 6 rfl (by kernel_rfl) ?_
        obtain ⟨Fx43, hF43, hx72, hsx9⟩ := a0o hx71 (i := 1) rfl hs38
        obtain ⟨v36, hv29, hb2⟩ := bind_some hb2
        refine a0g ent9 rfl rfl rfl rfl hx72 (a1s _ _ _ _ hv29 hx72.sat hsx9) ?_
        rintro _ Fx44 _ wx68 hF44 hx73 ⟨as39, ns39, cs39, rfl, rfl, hs39⟩
        refine a0j (hx73.sh ((((((hF38.trans hF39).trans hF40).trans hF41).trans hF42).trans hF43).trans hF44) [1, 2, 3, 4, 5] (by decide) rfl) ?_
        refine a0l 8 rfl (by kernel_rfl) ?_
        refine a0r sz24 rfl hx73 rfl rfl rfl rfl (i := 0) rfl rfl rfl rfl ?_
        intro wx69 hx74
        refine a0j (hx74.sh ((((((hF38.trans hF39).trans hF40).trans hF41).trans hF42).trans hF43).trans hF44) [1, 2, 3, 4, 5] (by decide) rfl) ?_
        refine a1t (by kernel_rfl) ?_
        refine a0n (fun a ha => ?_)
        cases hb2
        exact ⟨_, b18, as39, ns39, cs39, ((((((hF38.trans hF39).trans hF40).trans hF41).trans hF42).trans hF43).trans hF44), hx74.pick [0, 1, 2, 3, 4, 5] (by decide) rfl, hs39, ha.cut (l := [3, 5, 7, 8, 9, 10]) rfl⟩
      ·refine a1c ze24 rfl rfl rfl hx69 ?_
       intro b18 wx66 hx70
       refine a0j (hx70.sh (((hF38.trans hF39).trans hF40).trans hF41) [1, 2, 3, 4, 5] (by decide) rfl) ?_
       refine a0l 5 rfl (by kernel_rfl) ?_
       obtain ⟨v35, hv28, hb2⟩ := bind_some hb2
       refine a0g ent10 rfl rfl rfl rfl hx70 (a2u _ _ _ _ hv28 hx70.sat (SlR.nil _ _) hs37) ?_
       rintro _ Fx42 _ wx67 hF42 hx71 ⟨as38, ns38, cs38, xss38, rfl, rfl, hs38⟩
       refine a0j (hx71.sh ((((hF38.trans hF39).trans hF40).trans hF41).trans hF42) [2, 3, 4, 5, 6] (by decide) rfl) ?_
       refine a0l 6 rfl (by kernel_rfl) ?_
       obtain ⟨Fx43, hF43, hx72, hsx9⟩ := a0o hx71 (i := 0) rfl hs38
       obtain ⟨v36, hv29, hb2⟩ := bind_some hb2
       refine a0g ent9 rfl rfl rfl rfl hx72 (a1s _ _ _ _ hv29 hx72.sat hsx9) ?_
       rintro _ Fx44 _ wx68 hF44 hx73 ⟨as39, ns39, cs39, rfl, rfl, hs39⟩
       refine a0j (hx73.sh ((((((hF38.trans hF39).trans hF40).trans hF41).trans hF42).trans hF43).trans hF44) [1, 2, 3, 4, 5] (by decide) rfl) ?_
       refine a0l 8 rfl (by kernel_rfl) ?_
       refine a0r sz24 rfl hx73 rfl rfl rfl rfl (i := 0) rfl rfl rfl rfl ?_
       intro wx69 hx74
       refine a0j (hx74.sh ((((((hF38.trans hF39).trans hF40).trans hF41).trans hF42).trans hF43).trans hF44) [1, 2, 3, 4, 5] (by decide) rfl) ?_
       refine a1t (by kernel_rfl) ?_
       refine a0n (fun a ha => ?_)
       cases hb2
       exact ⟨_, b18, as39, ns39, cs39, ((((((hF38.trans hF39).trans hF40).trans hF41).trans hF42).trans hF43).trans hF44), hx74.pick [0, 1, 2, 3, 4, 5] (by decide) rfl, hs39, ha.cut (l := [3, 5, 7, 8, 9, 10]) rfl⟩
     ·refine a1c ze24 rfl rfl rfl hx67 ?_
      intro b18 wx65 hx68
      refine a0j (hx68.sh (hF38.trans hF39) [2, 3, 4, 5, 6] (by decide) rfl) ?_
      refine a0l 4 rfl (by kernel_rfl) ?_
      obtain ⟨Fx40, hF40, hx69, hsx8⟩ := a0o hx68 (i := 1) rfl hs36
      obtain ⟨v34, hv27, hb2⟩ := bind_some hb2
      refine a0g ent9 rfl rfl rfl rfl hx69 (a1s _ _ _ _ hv27 hx69.sat hsx8) ?_
      rintro _ Fx41 _ wx66 hF41 hx70 ⟨as37, ns37, cs37, rfl, rfl, hs37⟩
      refine a0j (hx70.sh (((hF38.trans hF39).trans hF40).trans hF41) [1, 2, 3, 4, 5] (by decide) rfl) ?_
      refine a0l 5 rfl (by kernel_rfl) ?_
      obtain ⟨v35, hv28, hb2⟩ := bind_some hb2
      refine a0g ent10 rfl rfl rfl rfl hx70 (a2u _ _ _ _ hv28 hx70.sat (SlR.nil _ _) hs37) ?_
      rintro _ Fx42 _ wx67 hF42 hx71 ⟨as38, ns38, cs38, xss38, rfl, rfl, hs38⟩
      refine a0j (hx71.sh ((((hF38.trans hF39).trans hF40).trans hF41).trans hF42) [2, 3, 4, 5, 6] (by decide) rfl) ?_
      refine a0l 6 rfl (by kernel_rfl) ?_
      obtain ⟨Fx43, hF43, hx72, hsx9⟩ := a0o hx71 (i := 0) rfl hs38
      obtain ⟨v36, hv29, hb2⟩ := bind_some hb2
      refine a0g ent9 rfl rfl rfl rfl hx72 (a1s _ _ _ _ hv29 hx72.sat hsx9) ?_
      rintro _ Fx44 _ wx68 hF44 hx73 ⟨as39, ns39, cs39, rfl, rfl, hs39⟩
      refine a0j (hx73.sh ((((((hF38.trans hF39).trans hF40).trans hF41).trans hF42).trans hF43).trans hF44) [1, 2, 3, 4, 5] (by decide) rfl) ?_
      refine a0l 8 rfl (by kernel_rfl) ?_
      refine a0r sz24 rfl hx73 rfl rfl rfl rfl (i := 0) rfl rfl rfl rfl ?_
      intro wx69 hx74
      refine a0j (hx74.sh ((((((hF38.trans hF39).trans hF40).trans hF41).trans hF42).trans hF43).trans hF44) [1, 2, 3, 4, 5] (by decide) rfl) ?_
      refine a1t (by kernel_rfl) ?_
      refine a0n (fun a ha => ?_)
      cases hb2
      exact ⟨_, b18, as39, ns39, cs39, ((((((hF38.trans hF39).trans hF40).trans hF41).trans hF42).trans hF43).trans hF44), hx74.pick [0, 1, 2, 3, 4, 5] (by decide) rfl, hs39, ha.cut (l := [3, 5, 7, 8, 9, 10]) rfl⟩
    ·refine a1c ze24 rfl rfl rfl hx66 ?_
     intro b18 wx64 hx67
     refine a0j (hx67.sh hF38 [1, 2, 3, 4, 5] (by decide) rfl) ?_
     refine a0l 3 rfl (by kernel_rfl) ?_
     obtain ⟨v33, hv26, hb2⟩ := bind_some hb2
     refine a0g ent10 rfl rfl rfl rfl hx67 (a2u _ _ _ _ hv26 hx67.sat hs35 (SlR.nil _ _)) ?_
     rintro _ Fx39 _ wx65 hF39 hx68 ⟨as36, ns36, cs36, xss36, rfl, rfl, hs36⟩
     refine a0j (hx68.sh (hF38.trans hF39) [2, 3, 4, 5, 6] (by decide) rfl) ?_
     refine a0l 4 rfl (by kernel_rfl) ?_
     obtain ⟨Fx40, hF40, hx69, hsx8⟩ := a0o hx68 (i := 0) rfl hs36
     obtain ⟨v34, hv27, hb2⟩ := bind_some hb2
     refine a0g ent9 rfl rfl rfl rfl hx69 (a1s _ _ _ _ hv27 hx69.sat hsx8) ?_
     rintro _ Fx41 _ wx66 hF41 hx70 ⟨as37, ns37, cs37, rfl, rfl, hs37⟩
     refine a0j (hx70.sh (((hF38.trans hF39).trans hF40).trans hF41) [1, 2, 3, 4, 5] (by decide) rfl) ?_
     refine a0l 5 rfl (by kernel_rfl) ?_
     obtain ⟨v35, hv28, hb2⟩ := bind_some hb2
     refine a0g ent10 rfl rfl rfl rfl hx70 (a2u _ _ _ _ hv28 hx70.sat (SlR.nil _ _) hs37) ?_
     rintro _ Fx42 _ wx67 hF42 hx71 ⟨as38, ns38, cs38, xss38, rfl, rfl, hs38⟩
     refine a0j (hx71.sh ((((hF38.trans hF39).trans hF40).trans hF41).trans hF42) [2, 3, 4, 5, 6] (by decide) rfl) ?_
     refine a0l 6 rfl (by kernel_rfl) ?_
     obtain ⟨Fx43, hF43, hx72, hsx9⟩ := a0o hx71 (i := 0) rfl hs38
     obtain ⟨v36, hv29, hb2⟩ := bind_some hb2
     refine a0g ent9 rfl rfl rfl rfl hx72 (a1s _ _ _ _ hv29 hx72.sat hsx9) ?_
     rintro _ Fx44 _ wx68 hF44 hx73 ⟨as39, ns39, cs39, rfl, rfl, hs39⟩
     refine a0j (hx73.sh ((((((hF38.trans hF39).trans hF40).trans hF41).trans hF42).trans hF43).trans hF44) [1, 2, 3, 4, 5] (by decide) rfl) ?_
     refine a0l 8 rfl (by kernel_rfl) ?_
     refine a0r sz24 rfl hx73 rfl rfl rfl rfl (i := 0) rfl rfl rfl rfl ?_
     intro wx69 hx74
     refine a0j (hx74.sh ((((((hF38.trans hF39).trans hF40).trans hF41).trans hF42).trans hF43).trans hF44) [1, 2, 3, 4, 5] (by decide) rfl) ?_
     refine a1t (by kernel_rfl) ?_
     refine a0n (fun a ha => ?_)
     cases hb2
     exact ⟨_, b18, as39, ns39, cs39, ((((((hF38.trans hF39).trans hF40).trans hF41).trans hF42).trans hF43).trans hF44), hx74.pick [0, 1, 2, 3, 4, 5] (by decide) rfl, hs39, ha.cut (l := [3, 5, 7, 8, 9, 10]) rfl⟩
   ·refine a1c ze24 rfl rfl rfl hx65 ?_
    intro b18 wx63 hx66
    refine a0j (hx66.sh (Frz.refl _) [1, 2, 3, 4, 5] (by decide) rfl) ?_
    refine a0l 1 rfl (by kernel_rfl) ?_
    obtain ⟨v32, hv25, hb2⟩ := bind_some hb2
    refine a0g ent19 rfl rfl rfl rfl hx66 (a2z _ _ _ hv25 hx66.sat) ?_
    rintro _ Fx38 _ wx64 hF38 hx67 ⟨as35, ns35, cs35, rfl, rfl, hs35⟩
    refine a0j (hx67.sh hF38 [1, 2, 3, 4, 5] (by decide) rfl) ?_
    refine a0l 3 rfl (by kernel_rfl) ?_
    obtain ⟨v33, hv26, hb2⟩ := bind_some hb2
    refine a0g ent10 rfl rfl rfl rfl hx67 (a2u _ _ _ _ hv26 hx67.sat hs35 (SlR.nil _ _)) ?_
    rintro _ Fx39 _ wx65 hF39 hx68 ⟨as36, ns36, cs36, xss36, rfl, rfl, hs36⟩
    refine a0j (hx68.sh (hF38.trans hF39) [2, 3, 4, 5, 6] (by decide) rfl) ?_
    refine a0l 4 rfl (by kernel_rfl) ?_
    obtain ⟨Fx40, hF40, hx69, hsx8⟩ := a0o hx68 (i := 0) rfl hs36
    obtain ⟨v34, hv27, hb2⟩ := bind_some hb2
    refine a0g ent9 rfl rfl rfl rfl hx69 (a1s _ _ _ _ hv27 hx69.sat hsx8) ?_
    rintro _ Fx41 _ wx66 hF41 hx70 ⟨as37, ns37, cs37, rfl, rfl, hs37⟩
    refine a0j (hx70.sh (((hF38.trans hF39).trans hF40).trans hF41) [1, 2, 3, 4, 5] (by decide) rfl) ?_
    refine a0l 5 rfl (by kernel_rfl) ?_
    obtain ⟨v35, hv28, hb2⟩ := bind_some hb2
    refine a0g ent10 rfl rfl rfl rfl hx70 (a2u _ _ _ _ hv28 hx70.sat (SlR.nil _ _) hs37) ?_
    rintro _ Fx42 _ wx67 hF42 hx71 ⟨as38, ns38, cs38, xss38, rfl, rfl, hs38⟩
    refine a0j (hx71.sh ((((hF38.trans hF39).trans hF40).trans hF41).trans hF42) [2, 3, 4, 5, 6] (by decide) rfl) ?_
    refine a0l 6 rfl (by kernel_rfl) ?_
    obtain ⟨Fx43, hF43, hx72, hsx9⟩ := a0o hx71 (i := 0) rfl hs38
    obtain ⟨v36, hv29, hb2⟩ := bind_some hb2
    refine a0g ent9 rfl rfl rfl rfl hx72 (a1s _ _ _ _ hv29 hx72.sat hsx9) ?_
    rintro _ Fx44 _ wx68 hF44 hx73 ⟨as39, ns39, cs39, rfl, rfl, hs39⟩
    refine a0j (hx73.sh ((((((hF38.trans hF39).trans hF40).trans hF41).trans hF42).trans hF43).trans hF44) [1, 2, 3, 4, 5] (by decide) rfl) ?_
    refine a0l 8 rfl (by kernel_rfl) ?_
    refine a0r sz24 rfl hx73 rfl rfl rfl rfl (i := 0) rfl rfl rfl rfl ?_
    intro wx69 hx74
    refine a0j (hx74.sh ((((((hF38.trans hF39).trans hF40).trans hF41).trans hF42).trans hF43).trans hF44) [1, 2, 3, 4, 5] (by decide) rfl) ?_
    refine a1t (by kernel_rfl) ?_
    refine a0n (fun a ha => ?_)
    cases hb2
    exact ⟨_, b18, as39, ns39, cs39, ((((((hF38.trans hF39).trans hF40).trans hF41).trans hF42).trans hF43).trans hF44), hx74.pick [0, 1, 2, 3, 4, 5] (by decide) rfl, hs39, ha.cut (l := [3, 5, 7, 8, 9, 10]) rfl⟩
 ·clear hm
  refine a2m (SH Fx4 [.box b5 24 [.int .i64 2, .int .i64 0, vs [], .slice none 0 0], .box b4 24 [.int .i64 4, .int .i64 0, vs [112, 97, 112, 101, 114], .slice none 0 0], .box b2 37 [.int .i64 v2.1.P.Sign, .slice as3 ns3 cs3, .int .i64 v2.1.Q.Sign, .slice as4 ns4 cs4], .box b1 37 [.int .i64 v1.1.P.Sign, .slice as1 ns1 cs1, .int .i64 v1.1.Q.Sign, .slice as2 ns2 cs2]]) 12 rfl (by kernel_rfl) hx14 ?_
  intro wx70 hx75
  refine d_tk 0 rfl (by kernel_rfl) rfl rfl rfl rfl (hx75.sh (Frz.refl _) [0, 1, 2, 3] (by decide) rfl) (fun _ _ _ _ hq => a0p ag24 sz24 rfl rfl hq rfl (i := 1) rfl rfl (a0c (qq rfl))) ?_
  refine d_tk 4 rfl (by kernel_rfl) rfl rfl rfl rfl (hx75.sh (Frz.refl _) [0, 1, 2, 3] (by decide) rfl) (fun _ _ _ _ _ => a0e rfl rfl rfl (a0c (qq rfl))) ?_
  refine a4j 1 9 rfl rfl (by kernel_rfl) ?_ ?_
  ·obtain ⟨v37, hv30, hb1⟩ := bind_some hb1
   refine a0g ent19 rfl rfl rfl rfl hx75 (a2z _ _ _ hv30 hx75.sat) ?_
   rintro _ Fx45 _ wx71 hF45 hx76 ⟨as40, ns40, cs40, rfl, rfl, hs40⟩
   refine a0j (hx76.sh hF45 [0, 1, 2, 3] (by decide) rfl) ?_
   refine a4j 2 9 rfl rfl (by kernel_rfl) ?_ ?_
   ·obtain ⟨v38, hv31, hb1⟩ := bind_some hb1
    refine a0g ent10 rfl rfl rfl rfl hx76 (a2u _ _ _ _ hv31 hx76.sat (SlR.nil _ _) hs40) ?_
    rintro _ Fx46 _ wx72 hF46 hx77 ⟨as41, ns41, cs41, xss41, rfl, rfl, hs41⟩
    refine a0j (hx77.sh (hF45.trans hF46) [1, 2, 3, 4] (by decide) rfl) ?_
    refine a4j 3 9 rfl rfl (by kernel_rfl) ?_ ?_
    ·obtain ⟨Fx47, hF47, hx78, hsx10⟩ := a0o hx77 (i := 0) rfl hs41
     obtain ⟨v39, hv32, hb1⟩ := bind_some hb1
     refine a0g ent9 rfl rfl rfl rfl hx78 (a1s _ _ _ _ hv32 hx78.sat hsx10) ?_
     rintro _ Fx48 _ wx73 hF48 hx79 ⟨as42, ns42, cs42, rfl, rfl, hs42⟩
     refine a0j (hx79.sh (((hF45.trans hF46).trans hF47).trans hF48) [0, 1, 2, 3] (by decide) rfl) ?_
     refine a4j 5 9 rfl rfl (by kernel_rfl) ?_ ?_
     ·have hG9 := ((hF45.trans hF46).trans hF47).trans hF48
      obtain ⟨v40, hv33, hb1⟩ := bind_some hb1
      refine a0g ent18 rfl rfl rfl rfl hx79 (a5a _ _ _ _ hv33 hx79.sat hs42 (hsx1.mono hG9)) ?_
      rintro _ Fx49 _ wx74 hF49 hx80 ⟨as43, ns43, cs43, as44, ns44, cs44, rfl, rfl, hs43, hs44⟩
      refine a0j (hx80.sh ((((hF45.trans hF46).trans hF47).trans hF48).trans hF49) [0, 1, 2, 3] (by decide) rfl) ?_
      refine d_tk 6 rfl (by kernel_rfl) rfl rfl rfl rfl (hx80.sh ((((hF45.trans hF46).trans hF47).trans hF48).trans hF49) [0, 1, 2, 3] (by decide) rfl) (fun _ _ _ _ _ => a0e rfl rfl rfl (a0c (qq rfl))) ?_
      refine d_tk 7 rfl (by kernel_rfl) rfl rfl rfl rfl (hx80.sh ((((hF45.trans hF46).trans hF47).trans hF48).trans hF49) [0, 1, 2, 3] (by decide) rfl) (fun _ _ _ _ _ => a0k rfl rfl rfl rfl (a0c (qq rfl))) ?_
      refine d_tk 8 rfl (by kernel_rfl) rfl rfl rfl rfl (hx80.sh ((((hF45.trans hF46).trans hF47).trans hF48).trans hF49) [0, 1, 2, 3] (by decide) rfl) (fun _ _ _ _ _ => a0k rfl rfl rfl rfl (a0c (qq rfl))) ?_
      refine a0l 9 rfl (by kernel_rfl) ?_
      refine a1c ze37 rfl rfl rfl hx80 ?_
      intro b19 wx75 hx81
      refine a0j (hx81.sh ((((hF45.trans hF46).trans hF47).trans hF48).trans hF49) [1, 2, 3, 4] (by decide) rfl) ?_
      refine a0l 10 rfl (by kernel_rfl) ?_
      refine a0r sz37 rfl hx81 rfl rfl rfl rfl (i := 0) rfl rfl rfl rfl ?_
      intro wx76 hx82
      refine a0j (hx82.sh ((((hF45.trans hF46).trans hF47).trans hF48).trans hF49) [1, 2, 3, 4] (by decide) rfl) ?_
      refine d_tk 11 rfl (by kernel_rfl) rfl rfl rfl rfl (hx82.sh ((((hF45.trans hF46).trans hF47).trans hF48).trans hF49) [1, 2, 3, 4] (by decide) rfl) (fun _ _ _ _ _ => a0b rfl rfl rfl (a0c (qq rfl))) ?_
      refine a1t (by kernel_rfl) ?_
      refine a0n (fun a ha => ?_)
      cases hb1
      exact ⟨_, b19, as43, ns43, cs43, as44, ns44, cs44, ((((hF45.trans hF46).trans hF47).trans hF48).trans hF49), hx82.pick [0, 1, 2, 3, 4] (by decide) rfl, hs43, hs44, ha.cut (l := [3, 5, 6, 7, 8, 9]) rfl⟩
     ·refine a1c ze37 rfl rfl rfl hx79 ?_
      intro b19 wx74 hx80
      refine a0j (hx80.sh (((hF45.trans hF46).trans hF47).trans hF48) [1, 2, 3, 4] (by decide) rfl) ?_
      refine a0l 5 rfl (by kernel_rfl) ?_
      have hG9 := ((hF45.trans hF46).trans hF47).trans hF48
      obtain ⟨v40, hv33, hb1⟩ := bind_some hb1
      refine a0g ent18 rfl rfl rfl rfl hx80 (a5a _ _ _ _ hv33 hx80.sat hs42 (hsx1.mono hG9)) ?_
      rintro _ Fx49 _ wx75 hF49 hx81 ⟨as43, ns43, cs43, as44, ns44, cs44, rfl, rfl, hs43, hs44⟩
      refine a0j (hx81.sh ((((hF45.trans hF46).trans hF47).trans hF48).trans hF49) [1, 2, 3, 4] (by decide) rfl) ?_
      refine d_tk 6 rfl (by kernel_rfl) rfl rfl rfl rfl (hx81.sh ((((hF45.trans hF46).trans hF47).trans hF48).trans hF49) [1, 2, 3, 4] (by decide) rfl) (fun _ _ _ _ _ => a0e rfl rfl rfl (a0c (qq rfl))) ?_
      refine d_tk 7 rfl (by kernel_rfl) rfl rfl rfl rfl (hx81.sh ((((hF45.trans hF46).trans hF47).trans hF48).trans hF49) [1, 2, 3, 4] (by decide) rfl) (fun _ _ _ _ _ => a0k rfl rfl rfl rfl (a0c (qq rfl))) ?_
      refine d_tk 8 rfl (by kernel_rfl) rfl rfl rfl rfl (hx81.sh ((((hF45.trans hF46).trans hF47).trans hF48).trans hF49) [1, 2, 3, 4] (by decide) rfl) (fun _ _ _ _ _ => a0k rfl rfl rfl rfl (a0c (qq rfl))) ?_
      refine a0l 10 rfl (by kernel_rfl) ?_
      refine a0r sz37 rfl hx81 rfl rfl rfl rfl (i := 0) rfl rfl rfl rfl ?_
      intro wx76 hx82
      refine a0j (hx82.sh ((((hF45.trans hF46).trans hF47).trans hF48).trans hF49) [1, 2, 3, 4] (by decide) rfl) ?_
      refine d_tk 11 rfl (by kernel_rfl) rfl rfl rfl rfl (hx82.sh ((((hF45.trans hF46).trans hF47).trans hF48).trans hF49) [1, 2, 3, 4] (by decide) rfl) (fun _ _ _ _ _ => a0b rfl rfl rfl (a0c (qq rfl))) ?_
      refine a1t (by kernel_rfl) ?_
      refine a0n (fun a ha => ?_)
      cases hb1
      exact ⟨_, b19, as43, ns43, cs43, as44, ns44, cs44, ((((hF45.trans hF46).trans hF47).trans hF48).trans hF49), hx82.pick [0, 1, 2, 3, 4] (by decide) rfl, hs43, hs44, ha.cut (l := [3, 5, 6, 7, 8, 9]) rfl⟩
    ·refine a1c ze37 rfl rfl rfl hx77 ?_
     intro b19 wx73 hx78
     refine a0j (hx78.sh (hF45.trans hF46) [2, 3, 4, 5] (by decide) rfl) ?_
     refine a0l 3 rfl (by kernel_rfl) ?_
     obtain ⟨Fx47, hF47, hx79, hsx10⟩ := a0o hx78 (i := 1) rfl hs41
     obtain ⟨v39, hv32, hb1⟩ := bind_some hb1
     refine a0g ent9 rfl rfl rfl rfl hx79 (a1s _ _ _ _ hv32 hx79.sat hsx10) ?_
     rintro _ Fx48 _ wx74 hF48 hx80 ⟨as42, ns42, cs42, rfl, rfl, hs42⟩
     refine a0j (hx80.sh (((hF45.trans hF46).trans hF47).trans hF48) [1, 2, 3, 4] (by decide) rfl) ?_
     refine a0l 5 rfl (by kernel_rfl) ?_
     have hG9 := ((hF45.trans hF46).trans hF47).trans hF48
     obtain ⟨v40, hv33, hb1⟩ := bind_some hb1
     refine a0g ent18 rfl rfl rfl rfl hx80 (a5a _ _ _ _ hv33 hx80.sat hs42 (hsx1.mono hG9)) ?_
     rintro _ Fx49 _ wx75 hF49 hx81 ⟨as43, ns43, cs43, as44, ns44, cs44, rfl, rfl, hs43, hs44⟩
     refine a0j (hx81.sh ((((hF45.trans hF46).trans hF47).trans hF48).trans hF49) [1, 2, 3, 4] (by decide) rfl) ?_
     refine d_tk 6 rfl (by kernel_rfl) rfl rfl rfl rfl (hx81.sh ((((hF45.trans hF46).trans hF47).trans hF48).trans hF49) [1, 2, 3, 4] (by decide) rfl) (fun _ _ _ _ _ => a0e rfl rfl rfl (a0c (qq rfl))) ?_
     refine d_tk 7 rfl (by kernel_rfl) rfl rfl rfl rfl (hx81.sh ((((hF45.trans hF46).trans hF47).trans hF48).trans hF49) [1, 2, 3, 4] (by decide) rfl) (fun _ _ _ _ _ => a0k rfl rfl rfl rfl (a0c (qq rfl))) ?_
     refine d_tk 8 rfl (by kernel_rfl) rfl rfl rfl rfl (hx81.sh ((((hF45.trans hF46).trans hF47).trans hF48).trans hF49) [1, 2, 3, 4] (by decide) rfl) (fun _ _ _ _ _ => a0k rfl rfl rfl rfl (a0c (qq rfl))) ?_
     refine a0l 10 rfl (by kernel_rfl) ?_
     refine a0r sz37 rfl hx81 rfl rfl rfl rfl (i := 0) rfl rfl rfl rfl ?_
     intro wx76 hx82
     refine a0j (hx82.sh ((((hF45.trans hF46).trans hF47).trans hF48).trans hF49) [1, 2, 3, 4] (by decide) rfl) ?_
     refine d_tk 11 rfl (by kernel_rfl) rfl rfl rfl rfl (hx82.sh ((((hF45.trans hF46).trans hF47).trans hF48).trans hF49) [1, 2, 3, 4] (by decide) rfl) (fun _ _ _ _ _ => a0b rfl rfl rfl (a0c (qq rfl))) ?_
     refine a1t (by kernel_rfl) ?_
     refine a0n (fun a ha => ?_)
     cases hb1
     exact ⟨_, b19, as43, ns43, cs43, as44, ns44, cs44, ((((hF45.trans hF46).trans hF47).trans hF48).trans hF49), hx82.pick [0, 1, 2, 3, 4] (by decide) rfl, hs43, hs44, ha.cut (l := [3, 5, 6, 7, 8, 9]) rfl⟩
   ·refine a1c ze37 rfl rfl rfl hx76 ?_
    intro b19 wx72 hx77
    refine a0j (hx77.sh hF45 [1, 2, 3, 4] (by decide) rfl) ?_
    refine a0l 2 rfl (by kernel_rfl) ?_
    obtain ⟨v38, hv31, hb1⟩ := bind_some hb1
    refine a0g ent10 rfl rfl rfl rfl hx77 (a2u _ _ _ _ hv31 hx77.sat (SlR.nil _ _) hs40) ?_
    rintro _ Fx46 _ wx73 hF46 hx78 ⟨as41, ns41, cs41, xss41, rfl, rfl, hs41⟩
    refine a0j (hx78.sh (hF45.trans hF46) [2, 3, 4, 5] (by decide) rfl) ?_
    refine a0l 3 rfl (by kernel_rfl) ?_
    obtain ⟨Fx47, hF47, hx79, hsx10⟩ := a0o hx78 (i := 0) rfl hs41
    obtain ⟨v39, hv32, hb1⟩ := bind_some hb1
    refine a0g ent9 rfl rfl rfl rfl hx79 (a1s _ _ _ _ hv32 hx79.sat hsx10) ?_
    rintro _ Fx48 _ wx74 hF48 hx80 ⟨as42, ns42, cs42, rfl, rfl, hs42⟩
    refine a0j (hx80.sh (((hF45.trans hF46).trans hF47).trans hF48) [1, 2, 3, 4] (by decide) rfl) ?_
    refine a0l 5 rfl (by kernel_rfl) ?_
    have hG9 := ((hF45.trans hF46).trans hF47).trans hF48
    obtain ⟨v40, hv33, hb1⟩ := bind_some hb1
    refine a0g ent18 rfl rfl rfl rfl hx80 (a5a _ _ _ _ hv33 hx80.sat hs42 (hsx1.mono hG9)) ?_
    rintro _ Fx49 _ wx75 hF49 hx81 ⟨as43, ns43, cs43, as44, ns44, cs44, rfl, rfl, hs43, hs44⟩
    refine a0j (hx81.sh ((((hF45.trans hF46).trans hF47).trans hF48).trans hF49) [1, 2, 3, 4] (by decide) rfl) ?_
    refine d_tk 6 rfl (by kernel_rfl) rfl rfl rfl rfl (hx81.sh ((((hF45.trans hF46).trans hF47).trans hF48).trans hF49) [1, 2, 3, 4] (by decide) rfl) (fun _ _ _ _ _ => a0e rfl rfl rfl (a0c (qq rfl))) ?_
    refine d_tk 7 rfl (by kernel_rfl) rfl rfl rfl rfl (hx81.sh ((((hF45.trans hF46).trans hF47).trans hF48).trans hF49) [1, 2, 3, 4] (by decide) rfl) (fun _ _ _ _ _ => a0k rfl rfl rfl rfl (a0c (qq rfl))) ?_
    refine d_tk 8 rfl (by kernel_rfl) rfl rfl rfl rfl (hx81.sh ((((hF45.trans hF46).trans hF47).trans hF48).trans hF49) [1, 2, 3, 4] (by decide) rfl) (fun _ _ _ _ _ => a0k rfl rfl rfl rfl (a0c (qq rfl))) ?_
    refine a0l 10 rfl (by kernel_rfl) ?_
    refine a0r sz37 rfl hx81 rfl rfl rfl rfl (i := 0) rfl rfl rfl rfl ?_
    intro wx76 hx82
    refine a0j (hx82.sh ((((hF45.trans hF46).trans hF47).trans hF48).trans hF49) [1, 2, 3, 4] (by decide) rfl) ?_
    refine d_tk 11 rfl (by kernel_rfl) rfl rfl rfl rfl (hx82.sh ((((hF45.trans hF46).trans hF47).trans hF48).trans hF49) [1, 2, 3, 4] (by decide) rfl) (fun _ _ _ _ _ => a0b rfl rfl rfl (a0c (qq rfl))) ?_
    refine a1t (by kernel_rfl) ?_
    refine a0n (fun a ha => ?_)
    cases hb1
    exact ⟨_, b19, as43, ns43, cs43, as44, ns44, cs44, ((((hF45.trans hF46).trans hF47).trans hF48).trans hF49), hx82.pick [0, 1, 2, 3, 4] (by decide) rfl, hs43, hs44, ha.cut (l := [3, 5, 6, 7, 8, 9]) rfl⟩
  ·refine a1c ze37 rfl rfl rfl hx75 ?_
   intro b19 wx71 hx76
   refine a0j (hx76.sh (Frz.refl _) [1, 2, 3, 4] (by decide) rfl) ?_
   refine a0l 1 rfl (by kernel_rfl) ?_
   obtain ⟨v37, hv30, hb1⟩ := bind_some hb1
   refine a0g ent19 rfl rfl rfl rfl hx76 (a2z _ _ _ hv30 hx76.sat) ?_
   rintro _ Fx45 _ wx72 hF45 hx77 ⟨as40, ns40, cs40, rfl, rfl, hs40⟩
   refine a0j (hx77.sh hF45 [1, 2, 3, 4] (by decide) rfl) ?_
   refine a0l 2 rfl (by kernel_rfl) ?_
   obtain ⟨v38, hv31, hb1⟩ := bind_some hb1
   refine a0g ent10 rfl rfl rfl rfl hx77 (a2u _ _ _ _ hv31 hx77.sat (SlR.nil _ _) hs40) ?_
   rintro _ Fx46 _ wx73 hF46 hx78 ⟨as41, ns41, cs41, xss41, rfl, rfl, hs41⟩
   refine a0j (hx78.sh (hF45.trans hF46) [2, 3, 4, 5] (by decide) rfl) ?_
   refine a0l 3 rfl (by kernel_rfl) ?_
   obtain ⟨Fx47, hF47, hx79, hsx10⟩ := a0o hx78 (i := 0) rfl hs41
   obtain ⟨v39, hv32, hb1⟩ := bind_some hb1
   refine a0g ent9 rfl rfl rfl rfl hx79 (a1s _ _ _ _ hv32 hx79.sat hsx10) ?_
   rintro _ Fx48 _ wx74 hF48 hx80 ⟨as42, ns42, cs42, rfl, rfl, hs42⟩
   refine a0j (hx80.sh (((hF45.trans hF46).trans hF47).trans hF48) [1, 2, 3, 4] (by decide) rfl) ?_
   refine a0l 5 rfl (by kernel_rfl) ?_
   have hG9 := ((hF45.trans hF46).trans hF47).trans hF48
   obtain ⟨v40, hv33, hb1⟩ := bind_some hb1
   refine a0g ent18 rfl rfl rfl rfl hx80 (a5a _ _ _ _ hv33 hx80.sat hs42 (hsx1.mono hG9)) ?_
   rintro _ Fx49 _ wx75 hF49 hx81 ⟨as43, ns43, cs43, as44, ns44, cs44, rfl, rfl, hs43, hs44⟩
   refine a0j (hx81.sh ((((hF45.trans hF46).trans hF47).trans hF48).trans hF49) [1, 2, 3, 4] (by decide) rfl) ?_
   refine d_tk 6 rfl (by kernel_rfl) rfl rfl rfl rfl (hx81.sh ((((hF45.trans hF46).trans hF47).trans hF48).trans hF49) [1, 2, 3, 4] (by decide) rfl) (fun _ _ _ _ _ => a0e rfl rfl rfl (a0c (qq rfl))) ?_
   refine d_tk 7 rfl (by kernel_rfl) rfl rfl rfl rfl (hx81.sh ((((hF45.trans hF46).trans hF47).trans hF48).trans hF49) [1, 2, 3, 4] (by decide) rfl) (fun _ _ _ _ _ => a0k rfl rfl rfl rfl (a0c (qq rfl))) ?_
   refine d_tk 8 rfl (by kernel_rfl) rfl rfl rfl rfl (hx81.sh ((((hF45.trans hF46).trans hF47).trans hF48).trans hF49) [1, 2, 3, 4] (by decide) rfl) (fun _ _ _ _ _ => a0k rfl rfl rfl rfl (a0c (qq rfl))) ?_
   refine a0l 10 rfl (by kernel_rfl) ?_
   refine a0r sz37 rfl hx81 rfl rfl rfl rfl (i := 0) rfl rfl rfl rfl ?_
   intro wx76 hx82
   refine a0j (hx82.sh ((((hF45.trans hF46).trans hF47).trans hF48).trans hF49) [1, 2, 3, 4] (by decide) rfl) ?_
   refine d_tk 11 rfl (by kernel_rfl) rfl rfl rfl rfl (hx82.sh ((((hF45.trans hF46).trans hF47).trans hF48).trans hF49) [1, 2, 3, 4] (by decide) rfl) (fun _ _ _ _ _ => a0b rfl rfl rfl (a0c (qq rfl))) ?_
   refine a1t (by kernel_rfl) ?_
   refine a0n (fun a ha => ?_)
   cases hb1
   exact ⟨_, b19, as43, ns43, cs43, as44, ns44, cs44, ((((hF45.trans hF46).trans hF47).trans hF48).trans hF49), hx82.pick [0, 1, 2, 3, 4] (by decide) rfl, hs43, hs44, ha.cut (l := [3, 5, 6, 7, 8, 9]) rfl⟩
end Go.Proofs.Ytknpjecpcmajiaa.M

namespace Go.Proofs.Ytknpjecpcmajiaa.M
open Go Go.RowKit Rt
theorem ent5 : Ent Try.prog 5 := fun _ _ => by kernel_rfl
theorem ent6 : Ent Try.prog 6 := fun _ _ => by kernel_rfl
theorem u5 : Try.prog.underlying 5 = some (.int .u8) := by kernel_rfl
theorem ze30 : b7w Try.prog 30 (.agg #[.slice none 0 0, .int .i64 0, .int .i64 0]) := fun _ => by kernel_rfl
theorem ap27 : AppIs Try.prog 27 9 1 16 := AppIs.of (z := vs []) (by kernel_rfl) (by kernel_rfl) rfl (by decide) (by decide)
theorem ap31 : AppIs Try.prog 31 37 4 64 := AppIs.of (z := .agg #[.int .i64 0, .slice none 0 0, .int .i64 0, .slice none 0 0]) (by kernel_rfl) (by kernel_rfl) rfl (by decide) (by decide)
def a7s (n : Nat) (t1 : Tariff) (names1 : (List Bs)) (f1 : Facts) (weights1 : (List Frac)) (first1 : Int) (more1 : Bs) : Option Bool :=
 (a9r n).bind fun v1 =>
 (b2g n t1 names1 f1 weights1).bind fun v2 =>
 (bif !v2 then
  some true
 else
  some (decide (30 < (more1.length : Int)))).bind fun v3 =>
 (bif v3 then
  some true
 else
  some ((names1.length : Int) == 0)).bind fun v4 =>
 bif v4 then
  some v1
 else
  (a6y n t1 names1 f1 weights1).bind fun v5 =>
  bif v5.2 != 0 then
   some v1
  else
   (rem (IntKind.i64.wrap first1) (names1.length : Int)).bind fun q1 =>
   (lsl f1.Lifts q1 f1.Lifts.length).bind fun l1 =>
   (lsl f1.Lifts 0 q1).bind fun l2 =>
   (app 8 [] l1).bind fun l3 =>
   (app 8 l3 l2).bind fun l4 =>
   ((lsl names1 q1 names1.length).bind fun l11 =>
   (lsl names1 0 q1).bind fun l12 =>
   (lsl weights1 q1 weights1.length).bind fun l13 =>
   (lsl weights1 0 q1).bind fun l14 =>
   (app 16 [] l11).bind fun l15 =>
   (app 16 l15 l12).bind fun l16 =>
   (app 64 [] l13).bind fun l17 =>
   (app 64 l17 l14).bind fun l18 =>
   (a6y n t1 l16 (⟨l4, f1.Persons, f1.Flats⟩ : Facts) l18).bind fun v14 =>
   some (v14.1.P.Sign, v14.1.P.Digits, v14.1.Q.Sign, v14.1.Q.Digits, v14.2)).bind fun (f2, f3, f4, f5, hx16) =>
   (bif hx16 != 0 then
    some true
   else
    (a5c n v5.1 (⟨(⟨f2, f3⟩ : Big), (⟨f4, f5⟩ : Big)⟩ : Frac)).bind fun v13 =>
    some (!v13)).bind fun v6 =>
   bif v6 then
    some false
   else
    (app 16 [] names1).bind fun l5 =>
    (app 16 l5 [more1]).bind fun l6 =>
    (a7w n t1 l6).bind fun v7 =>
    bif v7 != 0 then
     some v1
    else
     (app 8 [] f1.Lifts).bind fun l7 =>
     (app 8 l7 [1]).bind fun l8 =>
     ((app 64 [] weights1).bind fun l9 =>
     (a8k n 5).bind fun v11 =>
     (app 64 l9 [v11]).bind fun l10 =>
     (a6y n t1 l6 (⟨l8, f1.Persons, f1.Flats⟩ : Facts) l10).bind fun v12 =>
     some (v12.1.P.Sign, v12.1.P.Digits, v12.1.Q.Sign, v12.1.Q.Digits, v12.2)).bind fun (f6, f7, f8, f9, i1) =>
     (bif v1 then
      some (i1 == 0)
     else
      some false).bind fun v8 =>
     (bif v8 then
      (a5c n v5.1 (⟨(⟨f6, f7⟩ : Big), (⟨f8, f9⟩ : Big)⟩ : Frac)).bind fun v10 =>
      some v10
     else
      some false).bind fun v9 =>
     some v9
set_option maxHeartbeats 1000000 in
set_option maxRecDepth 1000000 in
theorem law36_FeeNames_ok (n : Nat) (t1 : Tariff) (names1 : (List Bs)) (f1 : Facts) (weights1 : (List Frac)) (first1 : Int) (more1 : Bs) (r : Bool) (hm : a7s n t1 names1 f1 weights1 first1 more1 = some r) {w : World} {F : Frz} (hs : Sat F w) {as1 : Option Addr} {ns1 : Nat} {cs1 : Nat} {as2 : Option Addr} {ns2 : Nat} {cs2 : Nat} {as3 : Option Addr} {ns3 : Nat} {cs3 : Nat} {as4 : Option Addr} {ns4 : Nat} {cs4 : Nat} (hs1 : SlR rp_Expr F as1 ns1 cs1 t1.Fee.Args) (hs2 : SlR Rp.str F as2 ns2 cs2 names1) (hs3 : SlR (Rp.int .i64) F as3 ns3 cs3 f1.Lifts) (hs4 : SlR rp_Frac F as4 ns4 cs4 weights1) :
  Calls Try.prog 4 #[.agg #[vs t1.Name, .int .i64 t1.Fee.Op, .int .i64 t1.Fee.N, vs t1.Fee.Name, .slice as1 ns1 cs1, .int .i64 t1.Cap], .slice as2 ns2 cs2, .agg #[.slice as3 ns3 cs3, .int .i64 f1.Persons, .int .i64 f1.Flats], .slice as4 ns4 cs4, .int .u8 first1, vs more1] w fun e w' => ∃ v F' O', e = .returned v ∧ HS F w [] F' O' w' ∧ (v = .bool r ∧ O' = []) := by
 unfold a7s at hm
 have h := HS.init hs
 refine a1e 143 Try.func4 rfl rfl rfl ?_
 refine a0f (a0a ?_)
 refine a2x rfl rfl rfl rfl h ?_
 intro b1 wx1 hx1
 refine a2x rfl rfl rfl rfl hx1 ?_
 intro b2 wx2 hx2
 refine a0b rfl rfl rfl (a0c (a0d (a0f (a0a ?_))))
 obtain ⟨v1, hv1, hm⟩ := bind_some hm
 refine a0g ent5 rfl rfl rfl rfl hx2 (b7m _ _ hv1 hx2.sat) ?_
 rintro _ Fx1 _ wx3 hF1 hx3 ⟨rfl, rfl⟩
 refine a0b rfl rfl rfl (a0c (a0d (a0f (a0f (a0a ?_)))))
 refine a0p ag26 sz26 rfl rfl hx3 rfl (i := 1) rfl rfl ?_
 refine a0e rfl rfl rfl ?_
 refine a0p ag30 sz30 rfl rfl hx3 rfl (i := 0) rfl rfl ?_
 refine a0e rfl rfl rfl ?_
 obtain ⟨v2, hv2, hm⟩ := bind_some hm
 refine a0g ent6 rfl rfl rfl rfl hx3 (c0h _ _ _ _ _ _ hv2 hx3.sat (hs1.mono hF1) (hs2.mono hF1) (hs3.mono hF1) (hs4.mono hF1)) ?_
 rintro _ Fx2 _ wx4 hF2 hx4 ⟨rfl, rfl⟩
 refine a4i rfl rfl rfl (a0e rfl rfl rfl ?_)
 obtain ⟨v3, hb1, hm⟩ := bind_some hm
 refine a2t 4 (fun a w' => wx4 = w' ∧ Has 143 a [(1, .slice as2 ns2 cs2), (3, .slice as4 ns4 cs4), (4, .int .u8 first1), (5, vs more1), (6, .pointer (some ⟨b1, 0, none⟩)), (8, .pointer (some ⟨b2, 0, none⟩)), (13, .bool v1), (34, .bool v3)]) ?_ ?_
 ·rintro a wx5 ⟨rfl, hax1⟩
  refine a1h hax1 ?_
  refine a0e rfl rfl rfl ?_
  obtain ⟨v4, hb2, hm⟩ := bind_some hm
  refine a2t 4 (fun a w' => wx4 = w' ∧ Has 143 a [(1, .slice as2 ns2 cs2), (3, .slice as4 ns4 cs4), (4, .int .u8 first1), (5, vs more1), (6, .pointer (some ⟨b1, 0, none⟩)), (8, .pointer (some ⟨b2, 0, none⟩)), (13, .bool v1), (39, .bool v4)]) ?_ ?_
  ·rintro a wx6 ⟨rfl, hax2⟩
   refine a1h hax2 ?_
   refine a0c (a0d ?_)
   rcases a0h hm with ⟨hb3, hm⟩ | ⟨hb3, hm⟩
   ·refine a0v 39 rfl hb3 ?_
    refine a1d rfl (a0f (a0a (a0e rfl rfl rfl (a0b rfl rfl rfl (a0c (a0d (a1f (a0m ?_))))))))
    refine a1m rfl rfl ?_
    obtain rfl := Option.some.inj hm
    exact ⟨_, _, _, rfl, hx4.pick [] (by decide) rfl, rfl, rfl⟩
   ·refine a0v 39 rfl hb3 ?_
    refine a0u rfl (a1g (a0d (a0f (a0a ?_))))
    refine a0p ag26 sz26 rfl rfl hx4 rfl (i := 1) rfl rfl ?_
    refine a0e rfl rfl rfl ?_
    refine a0p ag30 sz30 rfl rfl hx4 rfl (i := 0) rfl rfl ?_
    refine a0e rfl rfl rfl ?_
    obtain ⟨v5, hv3, hm⟩ := bind_some hm
    refine a0g ent7 rfl rfl rfl rfl hx4 (a1j _ _ _ _ _ _ hv3 hx4.sat ((hs1.mono hF1).mono hF2) ((hs2.mono hF1).mono hF2) ((hs3.mono hF1).mono hF2) ((hs4.mono hF1).mono hF2)) ?_
    rintro _ Fx3 _ wx7 hF3 hx5 ⟨as5, ns5, cs5, as6, ns6, cs6, rfl, rfl, hs5, hs6⟩
    refine a0e rfl rfl rfl (a0k rfl rfl rfl rfl (a0k rfl rfl rfl rfl ?_))
    refine a1c ze37 rfl rfl rfl hx5 ?_
    intro b3 wx8 hx6
    refine a0r sz37 rfl hx6 rfl rfl rfl rfl (i := 0) rfl rfl rfl rfl ?_
    intro wx9 hx7
    refine a0b rfl rfl rfl (a0c (a0d (a0f (a0f (a0a (a0e rfl rfl rfl ?_))))))
    refine a0w rfl rfl rfl rfl rfl ?_
    refine a0c (a0d ?_)
    rcases a0h hm with ⟨hb4, hm⟩ | ⟨hb4, hm⟩
    ·refine a0v 50 rfl hb4 ?_
     refine a1d rfl (a0f (a0a (a0e rfl rfl rfl (a0b rfl rfl rfl (a0c (a0d (a1f (a0m ?_))))))))
     refine a1m rfl rfl ?_
     obtain rfl := Option.some.inj hm
     exact ⟨_, _, _, rfl, hx7.pick [] (by decide) rfl, rfl, rfl⟩
    ·refine a0v 50 rfl hb4 ?_
     refine a0u rfl (a1g (a0d (a0f (a0a (a0e rfl rfl rfl ?_)))))
     refine b7v u5 u3 rfl rfl rfl ?_
     refine a0e rfl rfl rfl ?_
     refine a1x hs2.len u27 rfl rfl rfl ?_
     obtain ⟨q1, hq1, hm⟩ := bind_some hm
     refine c3i rfl rfl rfl rfl hq1 ?_
     refine a0b rfl rfl rfl (a0c (a0d (a0f (a0a ?_))))
     refine a0p ag30 sz30 rfl rfl hx7 rfl (i := 1) rfl rfl ?_
     refine a1c ze30 rfl rfl rfl hx7 ?_
     intro b4 wx10 hx8
     refine a0r sz30 rfl hx8 rfl rfl rfl rfl (i := 0) rfl rfl rfl rfl ?_
     intro wx11 hx9
     refine a0c (a0d (a0f ?_))
     refine a2m (SH Fx3 [.box b3 37 [.int .i64 v5.1.P.Sign, .slice as5 ns5 cs5, .int .i64 v5.1.Q.Sign, .slice as6 ns6 cs6], .box b2 30 [.slice as3 ns3 cs3, .int .i64 f1.Persons, .int .i64 f1.Flats], .box b1 26 [vs t1.Name, .int .i64 t1.Fee.Op, .int .i64 t1.Fee.N, vs t1.Fee.Name, .slice as1 ns1 cs1, .int .i64 t1.Cap]]) 13 rfl (by kernel_rfl) hx9 ?_
     intro wx12 hx10
     refine d_tk 1 rfl (by kernel_rfl) rfl rfl rfl rfl (hx10.sh (Frz.refl _) [1, 2, 3] (by decide) rfl) (fun _ _ _ _ _ => a0i fa30_0 rfl rfl rfl (a0c (qq rfl))) ?_
     refine d_tk 2 rfl (by kernel_rfl) rfl rfl rfl rfl (hx10.sh (Frz.refl _) [1, 2, 3] (by decide) rfl) (fun _ _ _ _ hq => a0t ag28 rfl rfl hq rfl (i := 1) rfl rfl (a0c (qq rfl))) ?_
     refine d_tk 3 rfl (by kernel_rfl) rfl rfl rfl rfl (hx10.sh (Frz.refl _) [1, 2, 3] (by decide) rfl) (fun _ _ _ _ _ => a0e rfl rfl rfl (a0c (qq rfl))) ?_
     obtain ⟨l1, hc1, hm⟩ := bind_some hm
     obtain ⟨as7, ns7, cs7, hrun1, hs7⟩ := b2n (P := Try.prog) (r := (Rp.int .i64)) u28 sz3 (((hs3.mono hF1).mono hF2).mono hF3) hc1 (.inl rfl) (.inr ⟨rfl, rfl⟩)
     refine c1i 4 rfl (by kernel_rfl) (by kernel_rfl) (by kernel_rfl) rfl rfl rfl rfl hrun1 (hx10.sh (Frz.refl _) [1, 2, 3] (by decide) rfl) ?_
     refine d_tk 6 rfl (by kernel_rfl) rfl rfl rfl rfl (hx10.sh (Frz.refl _) [1, 2, 3] (by decide) rfl) (fun _ _ _ _ _ => a0i fa30_0 rfl rfl rfl (a0c (qq rfl))) ?_
     refine d_tk 7 rfl (by kernel_rfl) rfl rfl rfl rfl (hx10.sh (Frz.refl _) [1, 2, 3] (by decide) rfl) (fun _ _ _ _ hq => a0t ag28 rfl rfl hq rfl (i := 1) rfl rfl (a0c (qq rfl))) ?_
     refine d_tk 8 rfl (by kernel_rfl) rfl rfl rfl rfl (hx10.sh (Frz.refl _) [1, 2, 3] (by decide) rfl) (fun _ _ _ _ _ => a0e rfl rfl rfl (a0c (qq rfl))) ?_
     obtain ⟨l2, hc2, hm⟩ := bind_some hm
     obtain ⟨as8, ns8, cs8, hrun2, hs8⟩ := b2n (P := Try.prog) (r := (Rp.int .i64)) u28 sz3 (((hs3.mono hF1).mono hF2).mono hF3) hc2 (.inr ⟨rfl, rfl⟩) (.inl rfl)
     refine c1h 9 rfl (by kernel_rfl) (by kernel_rfl) (by kernel_rfl) rfl rfl rfl rfl hrun2 (hx10.sh (Frz.refl _) [1, 2, 3] (by decide) rfl) ?_
     refine a0l 0 rfl (by kernel_rfl) ?_
     refine a1a (e := 3) (cs := []) (q := 1) rfl rfl hx10 rfl (fun _ => by kernel_rfl) rfl rfl ?_
     intro b5 wx13 hx11
     refine a0j (hx11.sh (Frz.refl _) [2, 3, 4] (by decide) rfl) ?_
     refine a0l 5 rfl (by kernel_rfl) ?_
     obtain ⟨l3, hr1, hm⟩ := bind_some hm
     refine a1b (r := (Rp.int .i64)) ap28 rfl rfl rfl hx11 rfl rfl (i := 0) rfl ((show RowN (Rp.int .i64) Fx3 0 [] [] from ⟨rfl, (rfl : RowR (Rp.int .i64) _ [] [])⟩)) hs7 hr1 ?_
     intro as9 cs9 wx14 xss9 hx12 hs9
     refine a0j (hx12.sh (Frz.refl _) [2, 3, 4] (by decide) rfl) ?_
     refine a0l 10 rfl (by kernel_rfl) ?_
     obtain ⟨l4, hr2, hm⟩ := bind_some hm
     refine a1b (r := (Rp.int .i64)) ap28 rfl rfl rfl hx12 rfl rfl (i := 0) rfl hs9 hs8 hr2 ?_
     intro as10 cs10 wx15 xss10 hx13 hs10
     refine a0j (hx13.sh (Frz.refl _) [2, 3, 4] (by decide) rfl) ?_
     refine d_tk 11 rfl (by kernel_rfl) rfl rfl rfl rfl (hx13.sh (Frz.refl _) [2, 3, 4] (by decide) rfl) (fun _ _ _ _ _ => a0i fa30_0 rfl rfl rfl (a0c (qq rfl))) ?_
     refine a0l 12 rfl (by kernel_rfl) ?_
     refine a0r sz28 rfl hx13 rfl rfl rfl rfl (i := 1) rfl rfl rfl rfl ?_
     intro wx16 hx14
     refine a0j (hx14.sh (Frz.refl _) [2, 3, 4] (by decide) rfl) ?_
     refine a1t (by kernel_rfl) ?_
     refine a0d ?_
     obtain ⟨Fx4, hF4, hx15, hsx1⟩ := a0o hx14 (i := 0) rfl hs10
     obtain ⟨⟨f2, f3, f4, f5, hx16⟩, hb5, hm⟩ := bind_some hm
     refine c1g (fun a w' => ∃ (Fx5 : Frz) (b6 : Nat) (as11 : Option Addr) (ns11 : Nat) (cs11 : Nat) (as12 : Option Addr) (ns12 : Nat) (cs12 : Nat), Frz.le Fx4 Fx5 ∧ HS F w [] Fx5 [.box b6 37 [.int .i64 f2, .slice as11 ns11 cs11, .int .i64 f4, .slice as12 ns12 cs12], .box b4 30 [.slice as10 ((0 + ns7) + ns8) cs10, .int .i64 f1.Persons, .int .i64 f1.Flats], .box b3 37 [.int .i64 v5.1.P.Sign, .slice as5 ns5 cs5, .int .i64 v5.1.Q.Sign, .slice as6 ns6 cs6], .box b2 30 [.slice as3 ns3 cs3, .int .i64 f1.Persons, .int .i64 f1.Flats], .box b1 26 [vs t1.Name, .int .i64 t1.Fee.Op, .int .i64 t1.Fee.N, vs t1.Fee.Name, .slice as1 ns1 cs1, .int .i64 t1.Cap]] w' ∧ (SlR (Rp.int .i64) Fx5 as11 ns11 cs11 f3) ∧ (SlR (Rp.int .i64) Fx5 as12 ns12 cs12 f5) ∧ Has 143 a [(1, .slice as2 ns2 cs2), (3, .slice as4 ns4 cs4), (5, vs more1), (6, .pointer (some ⟨b1, 0, none⟩)), (8, .pointer (some ⟨b2, 0, none⟩)), (13, .bool v1), (14, .pointer (some ⟨b3, 0, none⟩)), (17, .pointer (some ⟨b4, 0, none⟩)), (18, .pointer (some ⟨b6, 0, none⟩)), (19, .int .i64 hx16)]) ?_ ?_
     ·rintro a wx17 ⟨Fx5, b6, as11, ns11, cs11, as12, ns12, cs12, hF5, hx17, hs11, hs12, hax3⟩
      refine a1o hax3 ?_
      refine a0f (a0f (a0a (a0e rfl rfl rfl ?_)))
      refine a0w rfl rfl rfl rfl rfl ?_
      refine a0e rfl rfl rfl ?_
      obtain ⟨v6, hb6, hm⟩ := bind_some hm
      refine a2t 5 (fun a w' => ∃ (Fx6 : Frz), Frz.le Fx5 Fx6 ∧ HS F w [] Fx6 [.box b6 37 [.int .i64 f2, .slice as11 ns11 cs11, .int .i64 f4, .slice as12 ns12 cs12], .box b4 30 [.slice as10 ((0 + ns7) + ns8) cs10, .int .i64 f1.Persons, .int .i64 f1.Flats], .box b3 37 [.int .i64 v5.1.P.Sign, .slice as5 ns5 cs5, .int .i64 v5.1.Q.Sign, .slice as6 ns6 cs6], .box b2 30 [.slice as3 ns3 cs3, .int .i64 f1.Persons, .int .i64 f1.Flats], .box b1 26 [vs t1.Name, .int .i64 t1.Fee.Op, .int .i64 t1.Fee.N, vs t1.Fee.Name, .slice as1 ns1 cs1, .int .i64 t1.Cap]] w' ∧ Has 143 a [(1, .slice as2 ns2 cs2), (3, .slice as4 ns4 cs4), (5, vs more1), (6, .pointer (some ⟨b1, 0, none⟩)), (8, .pointer (some ⟨b2, 0, none⟩)), (13, .bool v1), (14, .pointer (some ⟨b3, 0, none⟩)), (17, .pointer (some ⟨b4, 0, none⟩)), (101, .bool v6)]) ?_ ?_
      ·rintro a wx18 ⟨Fx6, hF6, hx18, hax4⟩
       refine a1h hax4 ?_
       refine a0c (a0d ?_)
       rcases a0h hm with ⟨hb7, hm⟩ | ⟨hb7, hm⟩
       ·refine a0v 101 rfl hb7 ?_
        refine a1d rfl (a0f (a0a (a0b rfl rfl rfl (a0c (a0d (a1f (a0m ?_)))))))
        refine a1m rfl rfl ?_
        obtain rfl := Option.some.inj hm
        exact ⟨_, _, _, rfl, hx18.pick [] (by decide) rfl, rfl, rfl⟩
       ·refine a0v 101 rfl hb7 ?_
        refine a0u rfl (a1g (a0d (a0f (a0a ?_))))
        refine a1a (e := 9) (cs := []) (q := 1) rfl rfl hx18 rfl (fun _ => by kernel_rfl) rfl rfl ?_
        intro b7 wx19 hx19
        refine a0e rfl rfl rfl ?_
        obtain ⟨l5, hr3, hm⟩ := bind_some hm
        refine a1b (r := Rp.str) ap27 rfl rfl rfl hx19 rfl rfl (i := 0) rfl ((show RowN Rp.str Fx6 0 [] [] from ⟨rfl, (rfl : RowR Rp.str _ [] [])⟩)) ((((((hs2.mono hF1).mono hF2).mono hF3).mono hF4).mono hF5).mono hF6) hr3 ?_
        intro as13 cs13 wx20 xss13 hx20 hs13
        refine a0e rfl rfl rfl ?_
        refine a1a (e := 9) (cs := [vs more1]) (q := 1) rfl rfl hx20 rfl (fun _ => by kernel_rfl) rfl rfl ?_
        intro b8 wx21 hx21
        obtain ⟨l6, hr4, hm⟩ := bind_some hm
        refine a5e (r := Rp.str) ap27 rfl rfl hx21 rfl rfl (i := 1) (j := 0) rfl rfl hs13 ((show RowN Rp.str Fx6 1 [vs more1] [more1] from ⟨rfl, ⟨_, _, rfl, rfl, (rfl : RowR Rp.str _ [] [])⟩⟩)) hr4 ?_
        intro as14 cs14 wx22 hx22 hs14
        refine a0b rfl rfl rfl (a0c (a0d (a0f (a0f (a0a ?_)))))
        refine a0p ag26 sz26 rfl rfl hx22 rfl (i := 6) rfl rfl ?_
        refine a0e rfl rfl rfl ?_
        obtain ⟨Fx7, hF7, hx23, hsx2⟩ := a0o hx22 (i := 1) rfl hs14
        have hG1 := (((((hF1.trans hF2).trans hF3).trans hF4).trans hF5).trans hF6).trans hF7
        obtain ⟨v7, hv4, hm⟩ := bind_some hm
        refine a0g ent16 rfl rfl rfl rfl hx23 (b1z _ _ _ _ hv4 hx23.sat (hs1.mono hG1) hsx2) ?_
        rintro _ Fx8 _ wx23 hF8 hx24 ⟨rfl, rfl⟩
        refine a0w rfl rfl rfl rfl rfl ?_
        refine a0c (a0d ?_)
        rcases a0h hm with ⟨hb8, hm⟩ | ⟨hb8, hm⟩
        ·refine a0v 111 rfl hb8 ?_
         refine a1d rfl (a0f (a0a (a0e rfl rfl rfl (a0b rfl rfl rfl (a0c (a0d (a1f (a0m ?_))))))))
         refine a1m rfl rfl ?_
         obtain rfl := Option.some.inj hm
         exact ⟨_, _, _, rfl, hx24.pick [] (by decide) rfl, rfl, rfl⟩
        ·refine a0v 111 rfl hb8 ?_
         refine a0u rfl (a1g (a0d (a0f (a0a ?_))))
         refine a1a (e := 3) (cs := []) (q := 1) rfl rfl hx24 rfl (fun _ => by kernel_rfl) rfl rfl ?_
         intro b9 wx24 hx25
         refine a0i fa30_0 rfl rfl rfl ?_
         refine a0t ag28 rfl rfl hx25 rfl (i := 5) rfl rfl ?_
         obtain ⟨l7, hr5, hm⟩ := bind_some hm
         refine a1b (r := (Rp.int .i64)) ap28 rfl rfl rfl hx25 rfl rfl (i := 0) rfl ((show RowN (Rp.int .i64) Fx8 0 [] [] from ⟨rfl, (rfl : RowR (Rp.int .i64) _ [] [])⟩)) ((hs3.mono hG1).mono hF8) hr5 ?_
         intro as15 cs15 wx25 xss15 hx26 hs15
         refine a1a (e := 3) (cs := [.int .i64 1]) (q := 1) rfl rfl hx26 rfl (fun _ => by kernel_rfl) rfl rfl ?_
         intro b10 wx26 hx27
         obtain ⟨l8, hr6, hm⟩ := bind_some hm
         refine a5e (r := (Rp.int .i64)) ap28 rfl rfl hx27 rfl rfl (i := 1) (j := 0) rfl rfl hs15 ((show RowN (Rp.int .i64) Fx8 1 [.int .i64 1] [1] from ⟨rfl, ⟨_, _, rfl, rfl, (rfl : RowR (Rp.int .i64) _ [] [])⟩⟩)) hr6 ?_
         intro as16 cs16 wx27 hx28 hs16
         refine a0i fa30_0 rfl rfl rfl ?_
         refine a0r sz28 rfl hx28 rfl rfl rfl rfl (i := 4) rfl rfl rfl rfl ?_
         intro wx28 hx29
         refine a0c (a0d ?_)
         obtain ⟨Fx9, hF9, hx30, hsx3⟩ := a0o hx29 (i := 1) rfl hs16
         obtain ⟨⟨f6, f7, f8, f9, i1⟩, hb9, hm⟩ := bind_some hm
         refine c1g (fun a w' => ∃ (Fx10 : Frz) (b11 : Nat) (as17 : Option Addr) (ns17 : Nat) (cs17 : Nat) (as18 : Option Addr) (ns18 : Nat) (cs18 : Nat), Frz.le Fx9 Fx10 ∧ HS F w [] Fx10 [.box b11 37 [.int .i64 f6, .slice as17 ns17 cs17, .int .i64 f8, .slice as18 ns18 cs18], .row 3 1 (some ⟨b10, 0, none⟩) 1 1 [.int .i64 1], .row 9 1 (some ⟨b8, 0, none⟩) 1 1 [vs more1], .box b6 37 [.int .i64 f2, .slice as11 ns11 cs11, .int .i64 f4, .slice as12 ns12 cs12], .box b4 30 [.slice as16 ((0 + ns3) + 1) cs16, .int .i64 f1.Persons, .int .i64 f1.Flats], .box b3 37 [.int .i64 v5.1.P.Sign, .slice as5 ns5 cs5, .int .i64 v5.1.Q.Sign, .slice as6 ns6 cs6], .box b2 30 [.slice as3 ns3 cs3, .int .i64 f1.Persons, .int .i64 f1.Flats], .box b1 26 [vs t1.Name, .int .i64 t1.Fee.Op, .int .i64 t1.Fee.N, vs t1.Fee.Name, .slice as1 ns1 cs1, .int .i64 t1.Cap]] w' ∧ (SlR (Rp.int .i64) Fx10 as17 ns17 cs17 f7) ∧ (SlR (Rp.int .i64) Fx10 as18 ns18 cs18 f9) ∧ Has 143 a [(13, .bool v1), (14, .pointer (some ⟨b3, 0, none⟩)), (21, .pointer (some ⟨b11, 0, none⟩)), (22, .int .i64 i1)]) ?_ ?_
         ·rintro a wx29 ⟨Fx10, b11, as17, ns17, cs17, as18, ns18, cs18, hF10, hx31, hs17, hs18, hax5⟩
          refine a1o hax5 ?_
          refine a0f (a0a (a0e rfl rfl rfl (a0e rfl rfl rfl ?_)))
          obtain ⟨v8, hb10, hm⟩ := bind_some hm
          refine a2t 3 (fun a w' => wx29 = w' ∧ Has 143 a [(14, .pointer (some ⟨b3, 0, none⟩)), (21, .pointer (some ⟨b11, 0, none⟩)), (137, .bool v8)]) ?_ ?_
          ·rintro a wx30 ⟨rfl, hax6⟩
           refine a1h hax6 ?_
           refine a0e rfl rfl rfl ?_
           obtain ⟨v9, hb11, hm⟩ := bind_some hm
           refine a2t 4 (fun a w' => ∃ (Fx11 : Frz), Frz.le Fx10 Fx11 ∧ HS F w [] Fx11 [.box b11 37 [.int .i64 f6, .slice as17 ns17 cs17, .int .i64 f8, .slice as18 ns18 cs18], .row 3 1 (some ⟨b10, 0, none⟩) 1 1 [.int .i64 1], .row 9 1 (some ⟨b8, 0, none⟩) 1 1 [vs more1], .box b6 37 [.int .i64 f2, .slice as11 ns11 cs11, .int .i64 f4, .slice as12 ns12 cs12], .box b4 30 [.slice as16 ((0 + ns3) + 1) cs16, .int .i64 f1.Persons, .int .i64 f1.Flats], .box b3 37 [.int .i64 v5.1.P.Sign, .slice as5 ns5 cs5, .int .i64 v5.1.Q.Sign, .slice as6 ns6 cs6], .box b2 30 [.slice as3 ns3 cs3, .int .i64 f1.Persons, .int .i64 f1.Flats], .box b1 26 [vs t1.Name, .int .i64 t1.Fee.Op, .int .i64 t1.Fee.N, vs t1.Fee.Name, .slice as1 ns1 cs1, .int .i64 t1.Cap]] w' ∧ Has 143 a [(142, .bool v9)]) ?_ ?_
           ·rintro a wx31 ⟨Fx11, hF11, hx32, hax7⟩
            refine a1h hax7 ?_
            refine a0b rfl rfl rfl (a0c (a0d (a1f ?_)))
            refine a1m rfl rfl ?_
            obtain rfl := Option.some.inj hm
            exact ⟨_, _, _, rfl, hx32.pick [] (by decide) rfl, rfl, rfl⟩
           ·clear hm
            rcases a0h hb11 with ⟨hb12, hb11⟩ | ⟨hb12, hb11⟩
            ·refine a1l 138 rfl hb12 ?_
             refine a0p ag37 sz37 rfl rfl hx31 rfl (i := 5) rfl rfl ?_
             refine a0p ag37 sz37 rfl rfl hx31 rfl (i := 0) rfl rfl ?_
             have hG2 := (((((hF4.trans hF5).trans hF6).trans hF7).trans hF8).trans hF9).trans hF10
             obtain ⟨v10, hv5, hb11⟩ := bind_some hb11
             refine a0g ent11 rfl rfl rfl rfl hx31 (a7f _ _ _ _ hv5 hx31.sat (hs5.mono hG2) (hs6.mono hG2) hs17 hs18) ?_
             rintro _ Fx12 _ wx32 hF12 hx33 ⟨rfl, rfl⟩
             refine a0s rfl rfl rfl rfl (a0c ?_)
             refine a0n (fun a ha => ?_)
             cases hb11
             exact ⟨_, hF12, hx33.pick [0, 1, 2, 3, 4, 5, 6, 7] (by decide) rfl, ha.cut (l := [142]) rfl⟩
            ·refine a1l 138 rfl hb12 ?_
             refine a0z rfl (by decide) rfl (a0z rfl (by decide) rfl (a0z rfl (by decide) rfl (a0q rfl rfl rfl rfl (a0c ?_))))
             refine a0n (fun a ha => ?_)
             cases hb11
             exact ⟨_, Frz.refl _, hx31.pick [0, 1, 2, 3, 4, 5, 6, 7] (by decide) rfl, ha.cut (l := [142]) rfl⟩
          ·clear hm
           rcases a0h hb10 with ⟨hb13, hb10⟩ | ⟨hb13, hb10⟩
           ·refine a1l 134 rfl hb13 ?_
            refine a0e rfl rfl rfl ?_
            refine a0w rfl rfl rfl rfl rfl ?_
            refine a0s rfl rfl rfl rfl (a0c ?_)
            refine a0n (fun a ha => ?_)
            cases hb10
            exact ⟨rfl, ha.cut (l := [14, 21, 137]) rfl⟩
           ·refine a1l 134 rfl hb13 ?_
            refine a0z rfl (by decide) rfl (a0z rfl (by decide) rfl (a0q rfl rfl rfl rfl (a0c ?_)))
            refine a0n (fun a ha => ?_)
            cases hb10
            exact ⟨rfl, ha.cut (l := [14, 21, 137]) rfl⟩
         ·clear hm
          refine a2m (SH Fx9 [.row 3 1 (some ⟨b10, 0, none⟩) 1 1 [.int .i64 1], .row 9 1 (some ⟨b8, 0, none⟩) 1 1 [vs more1], .box b6 37 [.int .i64 f2, .slice as11 ns11 cs11, .int .i64 f4, .slice as12 ns12 cs12], .box b4 30 [.slice as16 ((0 + ns3) + 1) cs16, .int .i64 f1.Persons, .int .i64 f1.Flats], .box b3 37 [.int .i64 v5.1.P.Sign, .slice as5 ns5 cs5, .int .i64 v5.1.Q.Sign, .slice as6 ns6 cs6], .box b2 30 [.slice as3 ns3 cs3, .int .i64 f1.Persons, .int .i64 f1.Flats], .box b1 26 [vs t1.Name, .int .i64 t1.Fee.Op, .int .i64 t1.Fee.N, vs t1.Fee.Name, .slice as1 ns1 cs1, .int .i64 t1.Cap]]) 16 rfl (by kernel_rfl) hx30 ?_
          intro wx33 hx34
          refine d_tk 0 rfl (by kernel_rfl) rfl rfl rfl rfl (hx34.sh (Frz.refl _) [0, 1, 2, 3, 4, 5, 6] (by decide) rfl) (fun _ _ _ _ hq => a0p ag26 sz26 rfl rfl hq rfl (i := 6) rfl rfl (a0c (qq rfl))) ?_
          refine d_tk 1 rfl (by kernel_rfl) rfl rfl rfl rfl (hx34.sh (Frz.refl _) [0, 1, 2, 3, 4, 5, 6] (by decide) rfl) (fun _ _ _ _ _ => a0e rfl rfl rfl (a0c (qq rfl))) ?_
          refine d_tk 2 rfl (by kernel_rfl) rfl rfl rfl rfl (hx34.sh (Frz.refl _) [0, 1, 2, 3, 4, 5, 6] (by decide) rfl) (fun _ _ _ _ hq => a0p ag30 sz30 rfl rfl hq rfl (i := 3) rfl rfl (a0c (qq rfl))) ?_
          refine d_tk 4 rfl (by kernel_rfl) rfl rfl rfl rfl (hx34.sh (Frz.refl _) [0, 1, 2, 3, 4, 5, 6] (by decide) rfl) (fun _ _ _ _ _ => a0e rfl rfl rfl (a0c (qq rfl))) ?_
          refine a4j 3 13 rfl rfl (by kernel_rfl) ?_ ?_
          ·refine a1a (e := 37) (cs := []) (q := 4) rfl rfl hx34 rfl (fun _ => by kernel_rfl) rfl rfl ?_
           intro b12 wx34 hx35
           refine a0j (hx35.sh (Frz.refl _) [1, 2, 3, 4, 5, 6, 7] (by decide) rfl) ?_
           refine a4j 5 13 rfl rfl (by kernel_rfl) ?_ ?_
           ·obtain ⟨l9, hr7, hb9⟩ := bind_some hb9
            refine a1b (r := rp_Frac) ap31 rfl rfl rfl hx35 rfl rfl (i := 0) rfl ((show RowN rp_Frac Fx9 0 [] [] from ⟨rfl, (rfl : RowR rp_Frac _ [] [])⟩)) (((hs4.mono hG1).mono hF8).mono hF9) hr7 ?_
            intro as19 cs19 wx35 xss19 hx36 hs19
            refine a0j (hx36.sh (Frz.refl _) [1, 2, 3, 4, 5, 6, 7] (by decide) rfl) ?_
            refine a4j 6 13 rfl rfl (by kernel_rfl) ?_ ?_
            ·obtain ⟨v11, hv6, hb9⟩ := bind_some hb9
             refine a0g ent12 rfl rfl rfl rfl hx36 (a5x _ _ _ hv6 hx36.sat) ?_
             rintro _ Fx13 _ wx36 hF13 hx37 ⟨as20, ns20, cs20, as21, ns21, cs21, rfl, rfl, hs20, hs21⟩
             refine a0j (hx37.sh hF13 [1, 2, 3, 4, 5, 6, 7] (by decide) rfl) ?_
             refine a4j 7 13 rfl rfl (by kernel_rfl) ?_ ?_
             ·refine a1a (e := 37) (cs := [.int .i64 v11.P.Sign, .slice as20 ns20 cs20, .int .i64 v11.Q.Sign, .slice as21 ns21 cs21]) (q := 4) rfl rfl hx37 rfl (fun _ => by kernel_rfl) rfl rfl ?_
              intro b13 wx37 hx38
              refine a0j (hx38.sh hF13 [2, 3, 4, 5, 6, 7, 8] (by decide) rfl) ?_
              refine a4j 8 13 rfl rfl (by kernel_rfl) ?_ ?_
              ·obtain ⟨l10, hr8, hb9⟩ := bind_some hb9
               refine a5e (r := rp_Frac) ap31 rfl rfl hx38 rfl rfl (i := 1) (j := 0) rfl rfl (hs19.mono hF13) ((show RowN rp_Frac Fx13 1 [.int .i64 v11.P.Sign, .slice as20 ns20 cs20, .int .i64 v11.Q.Sign, .slice as21 ns21 cs21] [v11] from ⟨rfl, ⟨_, _, rfl, ⟨as20, ns20, cs20, as21, ns21, cs21, rfl, hs20, hs21⟩, (rfl : RowR rp_Frac _ [] [])⟩⟩)) hr8 ?_
               intro as22 cs22 wx38 hx39 hs22
               refine a0j (hx39.sh hF13 [2, 3, 4, 5, 6, 7, 8] (by decide) rfl) ?_
               refine a4j 9 13 rfl rfl (by kernel_rfl) ?_ ?_
               ·obtain ⟨Fx14, hF14, hx40, hsx4⟩ := a0o hx39 (i := 1) rfl hs22
                have hG3 := (((hG1.trans hF8).trans hF9).trans hF13).trans hF14
                have hG4 := ((hF8.trans hF9).trans hF13).trans hF14
                obtain ⟨v12, hv7, hb9⟩ := bind_some hb9
                refine a0g ent7 rfl rfl rfl rfl hx40 (a1j _ _ _ _ _ _ hv7 hx40.sat (hs1.mono hG3) (hsx2.mono hG4) ((hsx3.mono hF13).mono hF14) hsx4) ?_
                rintro _ Fx15 _ wx39 hF15 hx41 ⟨as23, ns23, cs23, as24, ns24, cs24, rfl, rfl, hs23, hs24⟩
                refine a0j (hx41.sh ((hF13.trans hF14).trans hF15) [1, 2, 3, 4, 5, 6, 7] (by decide) rfl) ?_
                refine d_tk 10 rfl (by kernel_rfl) rfl rfl rfl rfl (hx41.sh ((hF13.trans hF14).trans hF15) [1, 2, 3, 4, 5, 6, 7] (by decide) rfl) (fun _ _ _ _ _ => a0e rfl rfl rfl (a0c (qq rfl))) ?_
                refine d_tk 11 rfl (by kernel_rfl) rfl rfl rfl rfl (hx41.sh ((hF13.trans hF14).trans hF15) [1, 2, 3, 4, 5, 6, 7] (by decide) rfl) (fun _ _ _ _ _ => a0k rfl rfl rfl rfl (a0c (qq rfl))) ?_
                refine d_tk 12 rfl (by kernel_rfl) rfl rfl rfl rfl (hx41.sh ((hF13.trans hF14).trans hF15) [1, 2, 3, 4, 5, 6, 7] (by decide) rfl) (fun _ _ _ _ _ => a0k rfl rfl rfl rfl (a0c (qq rfl))) ?_
                refine a0l 13 rfl (by kernel_rfl) ?_
                refine a1c ze37 rfl rfl rfl hx41 ?_
                intro b14 wx40 hx42
                refine a0j (hx42.sh ((hF13.trans hF14).trans hF15) [2, 3, 4, 5, 6, 7, 8] (by decide) rfl) ?_
                refine a0l 14 rfl (by kernel_rfl) ?_
                refine a0r sz37 rfl hx42 rfl rfl rfl rfl (i := 0) rfl rfl rfl rfl ?_
                intro wx41 hx43
                refine a0j (hx43.sh ((hF13.trans hF14).trans hF15) [2, 3, 4, 5, 6, 7, 8] (by decide) rfl) ?_
                refine d_tk 15 rfl (by kernel_rfl) rfl rfl rfl rfl (hx43.sh ((hF13.trans hF14).trans hF15) [2, 3, 4, 5, 6, 7, 8] (by decide) rfl) (fun _ _ _ _ _ => a0b rfl rfl rfl (a0c (qq rfl))) ?_
                refine a1t (by kernel_rfl) ?_
                refine a0n (fun a ha => ?_)
                cases hb9
                exact ⟨_, b14, as23, ns23, cs23, as24, ns24, cs24, ((hF13.trans hF14).trans hF15), hx43.pick [0, 2, 3, 4, 5, 6, 7, 8] (by decide) rfl, hs23, hs24, ha.cut (l := [13, 14, 21, 22]) rfl⟩
               ·refine a1c ze37 rfl rfl rfl hx39 ?_
                intro b14 wx39 hx40
                refine a0j (hx40.sh hF13 [3, 4, 5, 6, 7, 8, 9] (by decide) rfl) ?_
                refine a0l 9 rfl (by kernel_rfl) ?_
                obtain ⟨Fx14, hF14, hx41, hsx4⟩ := a0o hx40 (i := 2) rfl hs22
                have hG3 := (((hG1.trans hF8).trans hF9).trans hF13).trans hF14
                have hG4 := ((hF8.trans hF9).trans hF13).trans hF14
                obtain ⟨v12, hv7, hb9⟩ := bind_some hb9
                refine a0g ent7 rfl rfl rfl rfl hx41 (a1j _ _ _ _ _ _ hv7 hx41.sat (hs1.mono hG3) (hsx2.mono hG4) ((hsx3.mono hF13).mono hF14) hsx4) ?_
                rintro _ Fx15 _ wx40 hF15 hx42 ⟨as23, ns23, cs23, as24, ns24, cs24, rfl, rfl, hs23, hs24⟩
                refine a0j (hx42.sh ((hF13.trans hF14).trans hF15) [2, 3, 4, 5, 6, 7, 8] (by decide) rfl) ?_
                refine d_tk 10 rfl (by kernel_rfl) rfl rfl rfl rfl (hx42.sh ((hF13.trans hF14).trans hF15) [2, 3, 4, 5, 6, 7, 8] (by decide) rfl) (fun _ _ _ _ _ => a0e rfl rfl rfl (a0c (qq rfl))) ?_
                refine d_tk 11 rfl (by kernel_rfl) rfl rfl rfl rfl (hx42.sh ((hF13.trans hF14).trans hF15) [2, 3, 4, 5, 6, 7, 8] (by decide) rfl) (fun _ _ _ _ _ => a0k rfl rfl rfl rfl (a0c (qq rfl))) ?_
                refine d_tk 12 rfl (by kernel_rfl) rfl rfl rfl rfl (hx42.sh ((hF13.trans hF14).trans hF15) [2, 3, 4, 5, 6, 7, 8] (by decide) rfl) (fun _ _ _ _ _ => a0k rfl rfl rfl rfl (a0c (qq rfl))) ?_
                refine a0l 14 rfl (by kernel_rfl) ?_
                refine a0r sz37 rfl hx42 rfl rfl rfl rfl (i := 0) rfl rfl rfl rfl ?_
                intro wx41 hx43
                refine a0j (hx43.sh ((hF13.trans hF14).trans hF15) [2, 3, 4, 5, 6, 7, 8] (by decide) rfl) ?_
                refine d_tk 15 rfl (by kernel_rfl) rfl rfl rfl rfl (hx43.sh ((hF13.trans hF14).trans hF15) [2, 3, 4, 5, 6, 7, 8] (by decide) rfl) (fun _ _ _ _ _ => a0b rfl rfl rfl (a0c (qq rfl))) ?_
                refine a1t (by kernel_rfl) ?_
                refine a0n (fun a ha => ?_)
                cases hb9
                exact ⟨_, b14, as23, ns23, cs23, as24, ns24, cs24, ((hF13.trans hF14).trans hF15), hx43.pick [0, 2, 3, 4, 5, 6, 7, 8] (by decide) rfl, hs23, hs24, ha.cut (l := [13, 14, 21, 22]) rfl⟩
              ·refine a1c ze37 rfl rfl rfl hx38 ?_
               intro b14 wx38 hx39
               refine a0j (hx39.sh hF13 [3, 4, 5, 6, 7, 8, 9] (by decide) rfl) ?_
               refine a0l 8 rfl (by kernel_rfl) ?_
               obtain ⟨l10, hr8, hb9⟩ := bind_some hb9
               refine a5e (r := rp_Frac) ap31 rfl rfl hx39 rfl rfl (i := 2) (j := 1) rfl rfl (hs19.mono hF13) ((show RowN rp_Frac Fx13 1 [.int .i64 v11.P.Sign, .slice as20 ns20 cs20, .int .i64 v11.Q.Sign, .slice as21 ns21 cs21] [v11] from ⟨rfl, ⟨_, _, rfl, ⟨as20, ns20, cs20, as21, ns21, cs21, rfl, hs20, hs21⟩, (rfl : RowR rp_Frac _ [] [])⟩⟩)) hr8 ?_
               intro as22 cs22 wx39 hx40 hs22
               refine a0j (hx40.sh hF13 [3, 4, 5, 6, 7, 8, 9] (by decide) rfl) ?_
               refine a0l 9 rfl (by kernel_rfl) ?_
               obtain ⟨Fx14, hF14, hx41, hsx4⟩ := a0o hx40 (i := 2) rfl hs22
               have hG3 := (((hG1.trans hF8).trans hF9).trans hF13).trans hF14
               have hG4 := ((hF8.trans hF9).trans hF13).trans hF14
               obtain ⟨v12, hv7, hb9⟩ := bind_some hb9
               refine a0g ent7 rfl rfl rfl rfl hx41 (a1j _ _ _ _ _ _ hv7 hx41.sat (hs1.mono hG3) (hsx2.mono hG4) ((hsx3.mono hF13).mono hF14) hsx4) ?_
               rintro _ Fx15 _ wx40 hF15 hx42 ⟨as23, ns23, cs23, as24, ns24, cs24, rfl, rfl, hs23, hs24⟩
               refine a0j (hx42.sh ((hF13.trans hF14).trans hF15) [2, 3, 4, 5, 6, 7, 8] (by decide) rfl) ?_
               refine d_tk 10 rfl (by kernel_rfl) rfl rfl rfl rfl (hx42.sh ((hF13.trans hF14).trans hF15) [2, 3, 4, 5, 6, 7, 8] (by decide) rfl) (fun _ _ _ _ _ => a0e rfl rfl rfl (a0c (qq rfl))) ?_
               refine d_tk 11 rfl (by kernel_rfl) rfl rfl rfl rfl (hx42.sh ((hF13.trans hF14).trans hF15) [2, 3, 4, 5, 6, 7, 8] (by decide) rfl) (fun _ _ _ _ _ => a0k rfl rfl rfl rfl (a0c (qq rfl))) ?_
               refine d_tk 12 rfl (by kernel_rfl) rfl rfl rfl rfl (hx42.sh ((hF13.trans hF14).trans hF15) [2, 3, 4, 5, 6, 7, 8] (by decide) rfl) (fun _ _ _ _ _ => a0k rfl rfl rfl rfl (a0c (qq rfl))) ?_
               refine a0l 14 rfl (by kernel_rfl) ?_
               refine a0r sz37 rfl hx42 rfl rfl rfl rfl (i := 0) rfl rfl rfl rfl ?_
               intro wx41 hx43
               refine a0j (hx43.sh ((hF13.trans hF14).trans hF15) [2, 3, 4, 5, 6, 7, 8] (by decide) rfl) ?_
               refine d_tk 15 rfl (by kernel_rfl) rfl rfl rfl rfl (hx43.sh ((hF13.trans hF14).trans hF15) [2, 3, 4, 5, 6, 7, 8] (by decide) rfl) (fun _ _ _ _ _ => a0b rfl rfl rfl (a0c (qq rfl))) ?_
               refine a1t (by kernel_rfl) ?_
               refine a0n (fun a ha => ?_)
               cases hb9
               exact ⟨_, b14, as23, ns23, cs23, as24, ns24, cs24, ((hF13.trans hF14).trans hF15), hx43.pick [0, 2, 3, 4, 5, 6, 7, 8] (by decide) rfl, hs23, hs24, ha.cut (l := [13, 14, 21, 22]) rfl⟩
             ·refine a1c ze37 rfl rfl rfl hx37 ?_
              intro b13 wx37 hx38
              refine a0j (hx38.sh hF13 [2, 3, 4, 5, 6, 7, 8] (by decide) rfl) ?_
              refine a0l 7 rfl (by kernel_rfl) ?_
              refine a1a (e := 37) (cs := [.int .i64 v11.P.Sign, .slice as20 ns20 cs20, .int .i64 v11.Q.Sign, .slice as21 ns21 cs21]) (q := 4) rfl rfl hx38 rfl (fun _ => by kernel_rfl) rfl rfl ?_
              intro b14 wx38 hx39
              refine a0j (hx39.sh hF13 [3, 4, 5, 6, 7, 8, 9] (by decide) rfl) ?_
              refine a0l 8 rfl (by kernel_rfl) ?_
              obtain ⟨l10, hr8, hb9⟩ := bind_some hb9
              refine a5e (r := rp_Frac) ap31 rfl rfl hx39 rfl rfl (i := 2) (j := 0) rfl rfl (hs19.mono hF13) ((show RowN rp_Frac Fx13 1 [.int .i64 v11.P.Sign, .slice as20 ns20 cs20, .int .i64 v11.Q.Sign, .slice as21 ns21 cs21] [v11] from ⟨rfl, ⟨_, _, rfl, ⟨as20, ns20, cs20, as21, ns21, cs21, rfl, hs20, hs21⟩, (rfl : RowR rp_Frac _ [] [])⟩⟩)) hr8 ?_
              intro as22 cs22 wx39 hx40 hs22
              refine a0j (hx40.sh hF13 [3, 4, 5, 6, 7, 8, 9] (by decide) rfl) ?_
              refine a0l 9 rfl (by kernel_rfl) ?_
              obtain ⟨Fx14, hF14, hx41, hsx4⟩ := a0o hx40 (i := 2) rfl hs22
              have hG3 := (((hG1.trans hF8).trans hF9).trans hF13).trans hF14
              have hG4 := ((hF8.trans hF9).trans hF13).trans hF14
              obtain ⟨v12, hv7, hb9⟩ := bind_some hb9
              refine a0g ent7 rfl rfl rfl rfl hx41 (a1j _ _ _ _ _ _ hv7 hx41.sat (hs1.mono hG3) (hsx2.mono hG4) ((hsx3.mono hF13).mono hF14) hsx4) ?_
              rintro _ Fx15 _ wx40 hF15 hx42 ⟨as23, ns23, cs23, as24, ns24, cs24, rfl, rfl, hs23, hs24⟩
              refine a0j (hx42.sh ((hF13.trans hF14).trans hF15) [2, 3, 4, 5, 6, 7, 8] (by decide) rfl) ?_
              refine d_tk 10 rfl (by kernel_rfl) rfl rfl rfl rfl (hx42.sh ((hF13.trans hF14).trans hF15) [2, 3, 4, 5, 6, 7, 8] (by decide) rfl) (fun _ _ _ _ _ => a0e rfl rfl rfl (a0c (qq rfl))) ?_
              refine d_tk 11 rfl (by kernel_rfl) rfl rfl rfl rfl (hx42.sh ((hF13.trans hF14).trans hF15) [2, 3, 4, 5, 6, 7, 8] (by decide) rfl) (fun _ _ _ _ _ => a0k rfl rfl rfl rfl (a0c (qq rfl))) ?_
              refine d_tk 12 rfl (by kernel_rfl) rfl rfl rfl rfl (hx42.sh ((hF13.trans hF14).trans hF15) [2, 3, 4, 5, 6, 7, 8] (by decide) rfl) (fun _ _ _ _ _ => a0k rfl rfl rfl rfl (a0c (qq rfl))) ?_
              refine a0l 14 rfl (by kernel_rfl) ?_
              refine a0r sz37 rfl hx42 rfl rfl rfl rfl (i := 1) rfl rfl rfl rfl ?_
              intro wx41 hx43
              refine a0j (hx43.sh ((hF13.trans hF14).trans hF15) [2, 3, 4, 5, 6, 7, 8] (by decide) rfl) ?_
              refine d_tk 15 rfl (by kernel_rfl) rfl rfl rfl rfl (hx43.sh ((hF13.trans hF14).trans hF15) [2, 3, 4, 5, 6, 7, 8] (by decide) rfl) (fun _ _ _ _ _ => a0b rfl rfl rfl (a0c (qq rfl))) ?_
              refine a1t (by kernel_rfl) ?_
              refine a0n (fun a ha => ?_)
              cases hb9
              exact ⟨_, b13, as23, ns23, cs23, as24, ns24, cs24, ((hF13.trans hF14).trans hF15), hx43.pick [1, 2, 3, 4, 5, 6, 7, 8] (by decide) rfl, hs23, hs24, ha.cut (l := [13, 14, 21, 22]) rfl⟩
            ·refine a1c ze37 rfl rfl rfl hx36 ?_
             intro b13 wx36 hx37
             refine a0j (hx37.sh (Frz.refl _) [2, 3, 4, 5, 6, 7, 8] (by decide) rfl) ?_
             refine a0l 6 rfl (by kernel_rfl) ?_
             obtain ⟨v11, hv6, hb9⟩ := bind_some hb9
             refine a0g ent12 rfl rfl rfl rfl hx37 (a5x _ _ _ hv6 hx37.sat) ?_
             rintro _ Fx13 _ wx37 hF13 hx38 ⟨as20, ns20, cs20, as21, ns21, cs21, rfl, rfl, hs20, hs21⟩
             refine a0j (hx38.sh hF13 [2, 3, 4, 5, 6, 7, 8] (by decide) rfl) ?_
             refine a0l 7 rfl (by kernel_rfl) ?_
             refine a1a (e := 37) (cs := [.int .i64 v11.P.Sign, .slice as20 ns20 cs20, .int .i64 v11.Q.Sign, .slice as21 ns21 cs21]) (q := 4) rfl rfl hx38 rfl (fun _ => by kernel_rfl) rfl rfl ?_
             intro b14 wx38 hx39
             refine a0j (hx39.sh hF13 [3, 4, 5, 6, 7, 8, 9] (by decide) rfl) ?_
             refine a0l 8 rfl (by kernel_rfl) ?_
             obtain ⟨l10, hr8, hb9⟩ := bind_some hb9
             refine a5e (r := rp_Frac) ap31 rfl rfl hx39 rfl rfl (i := 2) (j := 0) rfl rfl (hs19.mono hF13) ((show RowN rp_Frac Fx13 1 [.int .i64 v11.P.Sign, .slice as20 ns20 cs20, .int .i64 v11.Q.Sign, .slice as21 ns21 cs21] [v11] from ⟨rfl, ⟨_, _, rfl, ⟨as20, ns20, cs20, as21, ns21, cs21, rfl, hs20, hs21⟩, (rfl : RowR rp_Frac _ [] [])⟩⟩)) hr8 ?_
             intro as22 cs22 wx39 hx40 hs22
             refine a0j (hx40.sh hF13 [3, 4, 5, 6, 7, 8, 9] (by decide) rfl) ?_
             refine a0l 9 rfl (by kernel_rfl) ?_
             obtain ⟨Fx14, hF14, hx41, hsx4⟩ := a0o hx40 (i := 2) rfl hs22
             have hG3 := (((hG1.trans hF8).trans hF9).trans hF13).trans hF14
             have hG4 := ((hF8.trans hF9).trans hF13).trans hF14
             obtain ⟨v12, hv7, hb9⟩ := bind_some hb9
             refine a0g ent7 rfl rfl rfl rfl hx41 (a1j _ _ _ _ _ _ hv7 hx41.sat (hs1.mono hG3) (hsx2.mono hG4) ((hsx3.mono hF13).mono hF14) hsx4) ?_
             rintro _ Fx15 _ wx40 hF15 hx42 ⟨as23, ns23, cs23, as24, ns24, cs24, rfl, rfl, hs23, hs24⟩
             refine a0j (hx42.sh ((hF13.trans hF14).trans hF15) [2, 3, 4, 5, 6, 7, 8] (by decide) rfl) ?_
             refine d_tk 10 rfl (by kernel_rfl) rfl rfl rfl rfl (hx42.sh ((hF13.trans hF14).trans hF15) [2, 3, 4, 5, 6, 7, 8] (by decide) rfl) (fun _ _ _ _ _ => a0e rfl rfl rfl (a0c (qq rfl))) ?_
             refine d_tk 11 rfl (by kernel_rfl) rfl rfl rfl rfl (hx42.sh ((hF13.trans hF14).trans hF15) [2, 3, 4, 5, 6, 7, 8] (by decide) rfl) (fun _ _ _ _ _ => a0k rfl rfl rfl rfl (a0c (qq rfl))) ?_
             refine d_tk 12 rfl (by kernel_rfl) rfl rfl rfl rfl (hx42.sh ((hF13.trans hF14).trans hF15) [2, 3, 4, 5, 6, 7, 8] (by decide) rfl) (fun _ _ _ _ _ => a0k rfl rfl rfl rfl (a0c (qq rfl))) ?_
             refine a0l 14 rfl (by kernel_rfl) ?_
             refine a0r sz37 rfl hx42 rfl rfl rfl rfl (i := 1) rfl rfl rfl rfl ?_
             intro wx41 hx43
             refine a0j (hx43.sh ((hF13.trans hF14).trans hF15) [2, 3, 4, 5, 6, 7, 8] (by decide) rfl) ?_
             refine d_tk 15 rfl (by kernel_rfl) rfl rfl rfl rfl (hx43.sh ((hF13.trans hF14).trans hF15) [2, 3, 4, 5, 6, 7, 8] (by decide) rfl) (fun _ _ _ _ _ => a0b rfl rfl rfl (a0c (qq rfl))) ?_
             refine a1t (by kernel_rfl) ?_
             refine a0n (fun a ha => ?_)
             cases hb9
             exact ⟨_, b13, as23, ns23, cs23, as24, ns24, cs24, ((hF13.trans hF14).trans hF15), hx43.pick [1, 2, 3, 4, 5, 6, 7, 8] (by decide) rfl, hs23, hs24, ha.cut (l := [13, 14, 21, 22]) rfl⟩
           ·refine a1c ze37 rfl rfl rfl hx35 ?_
            intro b13 wx35 hx36
            refine a0j (hx36.sh (Frz.refl _) [2, 3, 4, 5, 6, 7, 8] (by decide) rfl) ?_
            refine a0l 5 rfl (by kernel_rfl) ?_
            obtain ⟨l9, hr7, hb9⟩ := bind_some hb9
            refine a1b (r := rp_Frac) ap31 rfl rfl rfl hx36 rfl rfl (i := 1) rfl ((show RowN rp_Frac Fx9 0 [] [] from ⟨rfl, (rfl : RowR rp_Frac _ [] [])⟩)) (((hs4.mono hG1).mono hF8).mono hF9) hr7 ?_
            intro as19 cs19 wx36 xss19 hx37 hs19
            refine a0j (hx37.sh (Frz.refl _) [2, 3, 4, 5, 6, 7, 8] (by decide) rfl) ?_
            refine a0l 6 rfl (by kernel_rfl) ?_
            obtain ⟨v11, hv6, hb9⟩ := bind_some hb9
            refine a0g ent12 rfl rfl rfl rfl hx37 (a5x _ _ _ hv6 hx37.sat) ?_
            rintro _ Fx13 _ wx37 hF13 hx38 ⟨as20, ns20, cs20, as21, ns21, cs21, rfl, rfl, hs20, hs21⟩
            refine a0j (hx38.sh hF13 [2, 3, 4, 5, 6, 7, 8] (by decide) rfl) ?_
            refine a0l 7 rfl (by kernel_rfl) ?_
            refine a1a (e := 37) (cs := [.int .i64 v11.P.Sign, .slice as20 ns20 cs20, .int .i64 v11.Q.Sign, .slice as21 ns21 cs21]) (q := 4) rfl rfl hx38 rfl (fun _ => by kernel_rfl) rfl rfl ?_
            intro b14 wx38 hx39
            refine a0j (hx39.sh hF13 [3, 4, 5, 6, 7, 8, 9] (by decide) rfl) ?_
            refine a0l 8 rfl (by kernel_rfl) ?_
            obtain ⟨l10, hr8, hb9⟩ := bind_some hb9
            refine a5e (r := rp_Frac) ap31 rfl rfl hx39 rfl rfl (i := 2) (j := 0) rfl rfl (hs19.mono hF13) ((show RowN rp_Frac Fx13 1 [.int .i64 v11.P.Sign, .slice as20 ns20 cs20, .int .i64 v11.Q.Sign, .slice as21 ns21 cs21] [v11] from ⟨rfl, ⟨_, _, rfl, ⟨as20, ns20, cs20, as21, ns21, cs21, rfl, hs20, hs21⟩, (rfl : RowR rp_Frac _ [] [])⟩⟩)) hr8 ?_
            intro as22 cs22 wx39 hx40 hs22
            refine a0j (hx40.sh hF13 [3, 4, 5, 6, 7, 8, 9] (by decide) rfl) ?_
            refine a0l 9 rfl (by kernel_rfl) ?_
            obtain ⟨Fx14, hF14, hx41, hsx4⟩ := a0o hx40 (i := 2) rfl hs22
            have hG3 := (((hG1.trans hF8).trans hF9).trans hF13).trans hF14
            have hG4 := ((hF8.trans hF9).trans hF13).trans hF14
            obtain ⟨v12, hv7, hb9⟩ := bind_some hb9
            refine a0g ent7 rfl rfl rfl rfl hx41 (a1j _ _ _ _ _ _ hv7 hx41.sat (hs1.mono hG3) (hsx2.mono hG4) ((hsx3.mono hF13).mono hF14) hsx4) ?_
            rintro _ Fx15 _ wx40 hF15 hx42 ⟨as23, ns23, cs23, as24, ns24, cs24, rfl, rfl, hs23, hs24⟩
            refine a0j (hx42.sh ((hF13.trans hF14).trans hF15) [2, 3, 4, 5, 6, 7, 8] (by decide) rfl) ?_
            refine d_tk 10 rfl (by kernel_rfl) rfl rfl rfl rfl (hx42.sh ((hF13.trans hF14).trans hF15) [2, 3, 4, 5, 6, 7, 8] (by decide) rfl) (fun _ _ _ _ _ => a0e rfl rfl rfl (a0c (qq rfl))) ?_
            refine d_tk 11 rfl (by kernel_rfl) rfl rfl rfl rfl (hx42.sh ((hF13.trans hF14).trans hF15) [2, 3, 4, 5, 6, 7, 8] (by decide) rfl) (fun _ _ _ _ _ => a0k rfl rfl rfl rfl (a0c (qq rfl))) ?_
            refine d_tk 12 rfl (by kernel_rfl) rfl rfl rfl rfl (hx42.sh ((hF13.trans hF14).trans hF15) [2, 3, 4, 5, 6, 7, 8] (by decide) rfl) (fun _ _ _ _ _ => a0k rfl rfl rfl rfl (a0c (qq rfl))) ?_
            refine a0l 14 rfl (by kernel_rfl) ?_
            refine a0r sz37 rfl hx42 rfl rfl rfl rfl (i := 1) rfl rfl rfl rfl ?_
            intro wx41 hx43
            refine a0j (hx43.sh ((hF13.trans hF14).trans hF15) [2, 3, 4, 5, 6, 7, 8] (by decide) rfl) ?_
            refine d_tk 15 rfl (by kernel_rfl) rfl rfl rfl rfl (hx43.sh ((hF13.trans hF14).trans hF15) [2, 3, 4, 5, 6, 7, 8] (by decide) rfl) (fun _ _ _ _ _ => a0b rfl rfl rfl (a0c (qq rfl))) ?_
            refine a1t (by kernel_rfl) ?_
            refine a0n (fun a ha => ?_)
            cases hb9
            exact ⟨_, b13, as23, ns23, cs23, as24, ns24, cs24, ((hF13.trans hF14).trans hF15), hx43.pick [1, 2, 3, 4, 5, 6, 7, 8] (by decide) rfl, hs23, hs24, ha.cut (l := [13, 14, 21, 22]) rfl⟩
          ·refine a1c ze37 rfl rfl rfl hx34 ?_
           intro b12 wx34 hx35
           refine a0j (hx35.sh (Frz.refl _) [1, 2, 3, 4, 5, 6, 7] (by decide) rfl) ?_
           refine a0l 3 rfl (by kernel_rfl) ?_
           refine a1a (e := 37) (cs := []) (q := 4) rfl rfl hx35 rfl (fun _ => by kernel_rfl) rfl rfl ?_
           intro b13 wx35 hx36
           refine a0j (hx36.sh (Frz.refl _) [2, 3, 4, 5, 6, 7, 8] (by decide) rfl) ?_
           refine a0l 5 rfl (by kernel_rfl) ?_
           obtain ⟨l9, hr7, hb9⟩ := bind_some hb9
           refine a1b (r := rp_Frac) ap31 rfl rfl rfl hx36 rfl rfl (i := 0) rfl ((show RowN rp_Frac Fx9 0 [] [] from ⟨rfl, (rfl : RowR rp_Frac _ [] [])⟩)) (((hs4.mono hG1).mono hF8).mono hF9) hr7 ?_
           intro as19 cs19 wx36 xss19 hx37 hs19
           refine a0j (hx37.sh (Frz.refl _) [2, 3, 4, 5, 6, 7, 8] (by decide) rfl) ?_
           refine a0l 6 rfl (by kernel_rfl) ?_
           obtain ⟨v11, hv6, hb9⟩ := bind_some hb9
           refine a0g ent12 rfl rfl rfl rfl hx37 (a5x _ _ _ hv6 hx37.sat) ?_
           rintro _ Fx13 _ wx37 hF13 hx38 ⟨as20, ns20, cs20, as21, ns21, cs21, rfl, rfl, hs20, hs21⟩
           refine a0j (hx38.sh hF13 [2, 3, 4, 5, 6, 7, 8] (by decide) rfl) ?_
           refine a0l 7 rfl (by kernel_rfl) ?_
           refine a1a (e := 37) (cs := [.int .i64 v11.P.Sign, .slice as20 ns20 cs20, .int .i64 v11.Q.Sign, .slice as21 ns21 cs21]) (q := 4) rfl rfl hx38 rfl (fun _ => by kernel_rfl) rfl rfl ?_
           intro b14 wx38 hx39
           refine a0j (hx39.sh hF13 [3, 4, 5, 6, 7, 8, 9] (by decide) rfl) ?_
           refine a0l 8 rfl (by kernel_rfl) ?_
           obtain ⟨l10, hr8, hb9⟩ := bind_some hb9
           refine a5e (r := rp_Frac) ap31 rfl rfl hx39 rfl rfl (i := 1) (j := 0) rfl rfl (hs19.mono hF13) ((show RowN rp_Frac Fx13 1 [.int .i64 v11.P.Sign, .slice as20 ns20 cs20, .int .i64 v11.Q.Sign, .slice as21 ns21 cs21] [v11] from ⟨rfl, ⟨_, _, rfl, ⟨as20, ns20, cs20, as21, ns21, cs21, rfl, hs20, hs21⟩, (rfl : RowR rp_Frac _ [] [])⟩⟩)) hr8 ?_
           intro as22 cs22 wx39 hx40 hs22
           refine a0j (hx40.sh hF13 [3, 4, 5, 6, 7, 8, 9] (by decide) rfl) ?_
           refine a0l 9 rfl (by kernel_rfl) ?_
           obtain ⟨Fx14, hF14, hx41, hsx4⟩ := a0o hx40 (i := 1) rfl hs22
           have hG3 := (((hG1.trans hF8).trans hF9).trans hF13).trans hF14
           have hG4 := ((hF8.trans hF9).trans hF13).trans hF14
           obtain ⟨v12, hv7, hb9⟩ := bind_some hb9
           refine a0g ent7 rfl rfl rfl rfl hx41 (a1j _ _ _ _ _ _ hv7 hx41.sat (hs1.mono hG3) (hsx2.mono hG4) ((hsx3.mono hF13).mono hF14) hsx4) ?_
           rintro _ Fx15 _ wx40 hF15 hx42 ⟨as23, ns23, cs23, as24, ns24, cs24, rfl, rfl, hs23, hs24⟩
           refine a0j (hx42.sh ((hF13.trans hF14).trans hF15) [2, 3, 4, 5, 6, 7, 8] (by decide) rfl) ?_
           refine d_tk 10 rfl (by kernel_rfl) rfl rfl rfl rfl (hx42.sh ((hF13.trans hF14).trans hF15) [2, 3, 4, 5, 6, 7, 8] (by decide) rfl) (fun _ _ _ _ _ => a0e rfl rfl rfl (a0c (qq rfl))) ?_
           refine d_tk 11 rfl (by kernel_rfl) rfl rfl rfl rfl (hx42.sh ((hF13.trans hF14).trans hF15) [2, 3, 4, 5, 6, 7, 8] (by decide) rfl) (fun _ _ _ _ _ => a0k rfl rfl rfl rfl (a0c (qq rfl))) ?_
           refine d_tk 12 rfl (by kernel_rfl) rfl rfl rfl rfl (hx42.sh ((hF13.trans hF14).trans hF15) [2, 3, 4, 5, 6, 7, 8] (by decide) rfl) (fun _ _ _ _ _ => a0k rfl rfl rfl rfl (a0c (qq rfl))) ?_
           refine a0l 14 rfl (by kernel_rfl) ?_
           refine a0r sz37 rfl hx42 rfl rfl rfl rfl (i := 1) rfl rfl rfl rfl ?_
           intro wx41 hx43
           refine a0j (hx43.sh ((hF13.trans hF14).trans hF15) [2, 3, 4, 5, 6, 7, 8] (by decide) rfl) ?_
           refine d_tk 15 rfl (by kernel_rfl) rfl rfl rfl rfl (hx43.sh ((hF13.trans hF14).trans hF15) [2, 3, 4, 5, 6, 7, 8] (by decide) rfl) (fun _ _ _ _ _ => a0b rfl rfl rfl (a0c (qq rfl))) ?_
           refine a1t (by kernel_rfl) ?_
           refine a0n (fun a ha => ?_)
           cases hb9
           exact ⟨_, b12, as23, ns23, cs23, as24, ns24, cs24, ((hF13.trans hF14).trans hF15), hx43.pick [1, 2, 3, 4, 5, 6, 7, 8] (by decide) rfl, hs23, hs24, ha.cut (l := [13, 14, 21, 22]) rfl⟩
      ·clear hm
       rcases a0h hb6 with ⟨hb14, hb6⟩ | ⟨hb14, hb6⟩
       ·refine a1l 96 rfl hb14 ?_
        refine a0z rfl (by decide) rfl (a0z rfl (by decide) rfl (a0z rfl (by decide) rfl (a0z rfl (by decide) rfl (a0s rfl rfl rfl rfl (a0c ?_)))))
        refine a0n (fun a ha => ?_)
        cases hb6
        exact ⟨_, Frz.refl _, hx17.pick [0, 1, 2, 3, 4] (by decide) rfl, ha.cut (l := [1, 3, 5, 6, 8, 13, 14, 17, 101]) rfl⟩
       ·refine a1l 96 rfl hb14 ?_
        refine a0p ag37 sz37 rfl rfl hx17 rfl (i := 2) rfl rfl ?_
        refine a0p ag37 sz37 rfl rfl hx17 rfl (i := 0) rfl rfl ?_
        obtain ⟨v13, hv8, hb6⟩ := bind_some hb6
        refine a0g ent11 rfl rfl rfl rfl hx17 (a7f _ _ _ _ hv8 hx17.sat ((hs5.mono hF4).mono hF5) ((hs6.mono hF4).mono hF5) hs11 hs12) ?_
        rintro _ Fx16 _ wx42 hF16 hx44 ⟨rfl, rfl⟩
        refine a4i rfl rfl rfl (a0q rfl rfl rfl rfl (a0c ?_))
        refine a0n (fun a ha => ?_)
        cases hb6
        exact ⟨_, hF16, hx44.pick [0, 1, 2, 3, 4] (by decide) rfl, ha.cut (l := [1, 3, 5, 6, 8, 13, 14, 17, 101]) rfl⟩
     ·clear hm
      refine a2m (SH Fx4 [.box b4 30 [.slice as10 ((0 + ns7) + ns8) cs10, .int .i64 f1.Persons, .int .i64 f1.Flats], .box b3 37 [.int .i64 v5.1.P.Sign, .slice as5 ns5 cs5, .int .i64 v5.1.Q.Sign, .slice as6 ns6 cs6], .box b2 30 [.slice as3 ns3 cs3, .int .i64 f1.Persons, .int .i64 f1.Flats], .box b1 26 [vs t1.Name, .int .i64 t1.Fee.Op, .int .i64 t1.Fee.N, vs t1.Fee.Name, .slice as1 ns1 cs1, .int .i64 t1.Cap]]) 27 rfl (by kernel_rfl) hx15 ?_
      intro wx43 hx45
      refine d_tk 0 rfl (by kernel_rfl) rfl rfl rfl rfl (hx45.sh (Frz.refl _) [0, 1, 2, 3] (by decide) rfl) (fun _ _ _ _ hq => a0p ag26 sz26 rfl rfl hq rfl (i := 3) rfl rfl (a0c (qq rfl))) ?_
      refine d_tk 2 rfl (by kernel_rfl) rfl rfl rfl rfl (hx45.sh (Frz.refl _) [0, 1, 2, 3] (by decide) rfl) (fun _ _ _ _ _ => a0e rfl rfl rfl (a0c (qq rfl))) ?_
      refine d_tk 3 rfl (by kernel_rfl) rfl rfl rfl rfl (hx45.sh (Frz.refl _) [0, 1, 2, 3] (by decide) rfl) (fun _ _ _ _ _ => a0e rfl rfl rfl (a0c (qq rfl))) ?_
      obtain ⟨l11, hc3, hb5⟩ := bind_some hb5
      obtain ⟨as25, ns25, cs25, hrun3, hs25⟩ := b2n (P := Try.prog) (r := Rp.str) u27 sz9 ((((hs2.mono hF1).mono hF2).mono hF3).mono hF4) hc3 (.inl rfl) (.inr ⟨rfl, rfl⟩)
      refine c1i 4 rfl (by kernel_rfl) (by kernel_rfl) (by kernel_rfl) rfl rfl rfl rfl hrun3 (hx45.sh (Frz.refl _) [0, 1, 2, 3] (by decide) rfl) ?_
      refine d_tk 6 rfl (by kernel_rfl) rfl rfl rfl rfl (hx45.sh (Frz.refl _) [0, 1, 2, 3] (by decide) rfl) (fun _ _ _ _ _ => a0e rfl rfl rfl (a0c (qq rfl))) ?_
      refine d_tk 7 rfl (by kernel_rfl) rfl rfl rfl rfl (hx45.sh (Frz.refl _) [0, 1, 2, 3] (by decide) rfl) (fun _ _ _ _ _ => a0e rfl rfl rfl (a0c (qq rfl))) ?_
      obtain ⟨l12, hc4, hb5⟩ := bind_some hb5
      obtain ⟨as26, ns26, cs26, hrun4, hs26⟩ := b2n (P := Try.prog) (r := Rp.str) u27 sz9 ((((hs2.mono hF1).mono hF2).mono hF3).mono hF4) hc4 (.inr ⟨rfl, rfl⟩) (.inl rfl)
      refine c1h 8 rfl (by kernel_rfl) (by kernel_rfl) (by kernel_rfl) rfl rfl rfl rfl hrun4 (hx45.sh (Frz.refl _) [0, 1, 2, 3] (by decide) rfl) ?_
      refine d_tk 10 rfl (by kernel_rfl) rfl rfl rfl rfl (hx45.sh (Frz.refl _) [0, 1, 2, 3] (by decide) rfl) (fun _ _ _ _ hq => a0p ag30 sz30 rfl rfl hq rfl (i := 0) rfl rfl (a0c (qq rfl))) ?_
      refine d_tk 12 rfl (by kernel_rfl) rfl rfl rfl rfl (hx45.sh (Frz.refl _) [0, 1, 2, 3] (by decide) rfl) (fun _ _ _ _ _ => a0e rfl rfl rfl (a0c (qq rfl))) ?_
      refine d_tk 13 rfl (by kernel_rfl) rfl rfl rfl rfl (hx45.sh (Frz.refl _) [0, 1, 2, 3] (by decide) rfl) (fun _ _ _ _ _ => a0e rfl rfl rfl (a0c (qq rfl))) ?_
      obtain ⟨l13, hc5, hb5⟩ := bind_some hb5
      obtain ⟨as27, ns27, cs27, hrun5, hs27⟩ := b2n (P := Try.prog) (r := rp_Frac) u31 sz37 ((((hs4.mono hF1).mono hF2).mono hF3).mono hF4) hc5 (.inl rfl) (.inr ⟨rfl, rfl⟩)
      refine c1i 14 rfl (by kernel_rfl) (by kernel_rfl) (by kernel_rfl) rfl rfl rfl rfl hrun5 (hx45.sh (Frz.refl _) [0, 1, 2, 3] (by decide) rfl) ?_
      refine d_tk 16 rfl (by kernel_rfl) rfl rfl rfl rfl (hx45.sh (Frz.refl _) [0, 1, 2, 3] (by decide) rfl) (fun _ _ _ _ _ => a0e rfl rfl rfl (a0c (qq rfl))) ?_
      refine d_tk 17 rfl (by kernel_rfl) rfl rfl rfl rfl (hx45.sh (Frz.refl _) [0, 1, 2, 3] (by decide) rfl) (fun _ _ _ _ _ => a0e rfl rfl rfl (a0c (qq rfl))) ?_
      obtain ⟨l14, hc6, hb5⟩ := bind_some hb5
      obtain ⟨as28, ns28, cs28, hrun6, hs28⟩ := b2n (P := Try.prog) (r := rp_Frac) u31 sz37 ((((hs4.mono hF1).mono hF2).mono hF3).mono hF4) hc6 (.inr ⟨rfl, rfl⟩) (.inl rfl)
      refine c1h 18 rfl (by kernel_rfl) (by kernel_rfl) (by kernel_rfl) rfl rfl rfl rfl hrun6 (hx45.sh (Frz.refl _) [0, 1, 2, 3] (by decide) rfl) ?_
      refine c4p [1, 11, 24] (by kernel_rfl) rfl (a7e rfl ?_ (a7e rfl ?_ (a7e rfl ?_ (steps_nil))))
      ·refine a1a (e := 9) (cs := []) (q := 1) rfl rfl hx45 rfl (fun _ => by kernel_rfl) rfl rfl ?_
       intro b15 wx44 hx46
       refine a0j (hx46.sh (Frz.refl _) [1, 2, 3, 4] (by decide) rfl) ?_
       refine c4p [5, 11, 24] (by kernel_rfl) rfl (a7e rfl ?_ (a7e rfl ?_ (a7e rfl ?_ (steps_nil))))
       ·obtain ⟨l15, hr9, hb5⟩ := bind_some hb5
        refine a1b (r := Rp.str) ap27 rfl rfl rfl hx46 rfl rfl (i := 0) rfl ((show RowN Rp.str Fx4 0 [] [] from ⟨rfl, (rfl : RowR Rp.str _ [] [])⟩)) hs25 hr9 ?_
        intro as29 cs29 wx45 xss29 hx47 hs29
        refine a0j (hx47.sh (Frz.refl _) [1, 2, 3, 4] (by decide) rfl) ?_
        refine c4p [9, 11, 24] (by kernel_rfl) rfl (a7e rfl ?_ (a7e rfl ?_ (a7e rfl ?_ (steps_nil))))
        ·obtain ⟨l16, hr10, hb5⟩ := bind_some hb5
         refine a1b (r := Rp.str) ap27 rfl rfl rfl hx47 rfl rfl (i := 0) rfl hs29 hs26 hr10 ?_
         intro as30 cs30 wx46 xss30 hx48 hs30
         refine a0j (hx48.sh (Frz.refl _) [1, 2, 3, 4] (by decide) rfl) ?_
         refine a4j 11 24 rfl rfl (by kernel_rfl) ?_ ?_
         ·refine a1a (e := 37) (cs := []) (q := 4) rfl rfl hx48 rfl (fun _ => by kernel_rfl) rfl rfl ?_
          intro b16 wx47 hx49
          refine a0j (hx49.sh (Frz.refl _) [2, 3, 4, 5] (by decide) rfl) ?_
          refine a4j 15 24 rfl rfl (by kernel_rfl) ?_ ?_
          ·obtain ⟨l17, hr11, hb5⟩ := bind_some hb5
           refine a1b (r := rp_Frac) ap31 rfl rfl rfl hx49 rfl rfl (i := 0) rfl ((show RowN rp_Frac Fx4 0 [] [] from ⟨rfl, (rfl : RowR rp_Frac _ [] [])⟩)) hs27 hr11 ?_
           intro as31 cs31 wx48 xss31 hx50 hs31
           refine a0j (hx50.sh (Frz.refl _) [2, 3, 4, 5] (by decide) rfl) ?_
           refine a4j 19 24 rfl rfl (by kernel_rfl) ?_ ?_
           ·obtain ⟨l18, hr12, hb5⟩ := bind_some hb5
            refine a1b (r := rp_Frac) ap31 rfl rfl rfl hx50 rfl rfl (i := 0) rfl hs31 hs28 hr12 ?_
            intro as32 cs32 wx49 xss32 hx51 hs32
            refine a0j (hx51.sh (Frz.refl _) [2, 3, 4, 5] (by decide) rfl) ?_
            refine a4j 20 24 rfl rfl (by kernel_rfl) ?_ ?_
            ·obtain ⟨Fx17, hF17, hx52, hsx5⟩ := a0o hx51 (i := 1) rfl hs30
             obtain ⟨Fx18, hF18, hx53, hsx6⟩ := a0o hx52 (i := 0) rfl (hs32.mono hF17)
             have hG5 := ((((hF1.trans hF2).trans hF3).trans hF4).trans hF17).trans hF18
             obtain ⟨v14, hv9, hb5⟩ := bind_some hb5
             refine a0g ent7 rfl rfl rfl rfl hx53 (a1j _ _ _ _ _ _ hv9 hx53.sat (hs1.mono hG5) (hsx5.mono hF18) ((hsx1.mono hF17).mono hF18) hsx6) ?_
             rintro _ Fx19 _ wx50 hF19 hx54 ⟨as33, ns33, cs33, as34, ns34, cs34, rfl, rfl, hs33, hs34⟩
             refine a0j (hx54.sh ((hF17.trans hF18).trans hF19) [0, 1, 2, 3] (by decide) rfl) ?_
             refine d_tk 21 rfl (by kernel_rfl) rfl rfl rfl rfl (hx54.sh ((hF17.trans hF18).trans hF19) [0, 1, 2, 3] (by decide) rfl) (fun _ _ _ _ _ => a0e rfl rfl rfl (a0c (qq rfl))) ?_
             refine d_tk 22 rfl (by kernel_rfl) rfl rfl rfl rfl (hx54.sh ((hF17.trans hF18).trans hF19) [0, 1, 2, 3] (by decide) rfl) (fun _ _ _ _ _ => a0k rfl rfl rfl rfl (a0c (qq rfl))) ?_
             refine d_tk 23 rfl (by kernel_rfl) rfl rfl rfl rfl (hx54.sh ((hF17.trans hF18).trans hF19) [0, 1, 2, 3] (by decide) rfl) (fun _ _ _ _ _ => a0k rfl rfl rfl rfl (a0c (qq rfl))) ?_
             refine a0l 24 rfl (by kernel_rfl) ?_
             refine a1c ze37 rfl rfl rfl hx54 ?_
             intro b17 wx51 hx55
             refine a0j (hx55.sh ((hF17.trans hF18).trans hF19) [1, 2, 3, 4] (by decide) rfl) ?_
             refine a0l 25 rfl (by kernel_rfl) ?_
             refine a0r sz37 rfl hx55 rfl rfl rfl rfl (i := 0) rfl rfl rfl rfl ?_
             intro wx52 hx56
             refine a0j (hx56.sh ((hF17.trans hF18).trans hF19) [1, 2, 3, 4] (by decide) rfl) ?_
             refine d_tk 26 rfl (by kernel_rfl) rfl rfl rfl rfl (hx56.sh ((hF17.trans hF18).trans hF19) [1, 2, 3, 4] (by decide) rfl) (fun _ _ _ _ _ => a0b rfl rfl rfl (a0c (qq rfl))) ?_
             refine a1t (by kernel_rfl) ?_
             refine a0n (fun a ha => ?_)
             cases hb5
             exact ⟨_, b17, as33, ns33, cs33, as34, ns34, cs34, ((hF17.trans hF18).trans hF19), hx56.pick [0, 1, 2, 3, 4] (by decide) rfl, hs33, hs34, ha.cut (l := [1, 3, 5, 6, 8, 13, 14, 17, 18, 19]) rfl⟩
            ·refine a1c ze37 rfl rfl rfl hx51 ?_
             intro b17 wx50 hx52
             refine a0j (hx52.sh (Frz.refl _) [3, 4, 5, 6] (by decide) rfl) ?_
             refine a0l 20 rfl (by kernel_rfl) ?_
             obtain ⟨Fx17, hF17, hx53, hsx5⟩ := a0o hx52 (i := 2) rfl hs30
             obtain ⟨Fx18, hF18, hx54, hsx6⟩ := a0o hx53 (i := 1) rfl (hs32.mono hF17)
             have hG5 := ((((hF1.trans hF2).trans hF3).trans hF4).trans hF17).trans hF18
             obtain ⟨v14, hv9, hb5⟩ := bind_some hb5
             refine a0g ent7 rfl rfl rfl rfl hx54 (a1j _ _ _ _ _ _ hv9 hx54.sat (hs1.mono hG5) (hsx5.mono hF18) ((hsx1.mono hF17).mono hF18) hsx6) ?_
             rintro _ Fx19 _ wx51 hF19 hx55 ⟨as33, ns33, cs33, as34, ns34, cs34, rfl, rfl, hs33, hs34⟩
             refine a0j (hx55.sh ((hF17.trans hF18).trans hF19) [1, 2, 3, 4] (by decide) rfl) ?_
             refine d_tk 21 rfl (by kernel_rfl) rfl rfl rfl rfl (hx55.sh ((hF17.trans hF18).trans hF19) [1, 2, 3, 4] (by decide) rfl) (fun _ _ _ _ _ => a0e rfl rfl rfl (a0c (qq rfl))) ?_
             refine d_tk 22 rfl (by kernel_rfl) rfl rfl rfl rfl (hx55.sh ((hF17.trans hF18).trans hF19) [1, 2, 3, 4] (by decide) rfl) (fun _ _ _ _ _ => a0k rfl rfl rfl rfl (a0c (qq rfl))) ?_
             refine d_tk 23 rfl (by kernel_rfl) rfl rfl rfl rfl (hx55.sh ((hF17.trans hF18).trans hF19) [1, 2, 3, 4] (by decide) rfl) (fun _ _ _ _ _ => a0k rfl rfl rfl rfl (a0c (qq rfl))) ?_
             refine a0l 25 rfl (by kernel_rfl) ?_
             refine a0r sz37 rfl hx55 rfl rfl rfl rfl (i := 0) rfl rfl rfl rfl ?_
             intro wx52 hx56
             refine a0j (hx56.sh ((hF17.trans hF18).trans hF19) [1, 2, 3, 4] (by decide) rfl) ?_
             refine d_tk 26 rfl (by kernel_rfl) rfl rfl rfl rfl (hx56.sh ((hF17.trans hF18).trans hF19) [1, 2, 3, 4] (by decide) rfl) (fun _ _ _ _ _ => a0b rfl rfl rfl (a0c (qq rfl))) ?_
             refine a1t (by kernel_rfl) ?_
             refine a0n (fun a ha => ?_)
             cases hb5
             exact ⟨_, b17, as33, ns33, cs33, as34, ns34, cs34, ((hF17.trans hF18).trans hF19), hx56.pick [0, 1, 2, 3, 4] (by decide) rfl, hs33, hs34, ha.cut (l := [1, 3, 5, 6, 8, 13, 14, 17, 18, 19]) rfl⟩
           ·refine a1c ze37 rfl rfl rfl hx50 ?_
            intro b17 wx49 hx51
            refine a0j (hx51.sh (Frz.refl _) [3, 4, 5, 6] (by decide) rfl) ?_
            refine a0l 19 rfl (by kernel_rfl) ?_
            obtain ⟨l18, hr12, hb5⟩ := bind_some hb5
            refine a1b (r := rp_Frac) ap31 rfl rfl rfl hx51 rfl rfl (i := 1) rfl hs31 hs28 hr12 ?_
            intro as32 cs32 wx50 xss32 hx52 hs32
            refine a0j (hx52.sh (Frz.refl _) [3, 4, 5, 6] (by decide) rfl) ?_
            refine a0l 20 rfl (by kernel_rfl) ?_
            obtain ⟨Fx17, hF17, hx53, hsx5⟩ := a0o hx52 (i := 2) rfl hs30
            obtain ⟨Fx18, hF18, hx54, hsx6⟩ := a0o hx53 (i := 1) rfl (hs32.mono hF17)
            have hG5 := ((((hF1.trans hF2).trans hF3).trans hF4).trans hF17).trans hF18
            obtain ⟨v14, hv9, hb5⟩ := bind_some hb5
            refine a0g ent7 rfl rfl rfl rfl hx54 (a1j _ _ _ _ _ _ hv9 hx54.sat (hs1.mono hG5) (hsx5.mono hF18) ((hsx1.mono hF17).mono hF18) hsx6) ?_
            rintro _ Fx19 _ wx51 hF19 hx55 ⟨as33, ns33, cs33, as34, ns34, cs34, rfl, rfl, hs33, hs34⟩
            refine a0j (hx55.sh ((hF17.trans hF18).trans hF19) [1, 2, 3, 4] (by decide) rfl) ?_
            refine d_tk 21 rfl (by kernel_rfl) rfl rfl rfl rfl (hx55.sh ((hF17.trans hF18).trans hF19) [1, 2, 3, 4] (by decide) rfl) (fun _ _ _ _ _ => a0e rfl rfl rfl (a0c (qq rfl))) ?_
            refine d_tk 22 rfl (by kernel_rfl) rfl rfl rfl rfl (hx55.sh ((hF17.trans hF18).trans hF19) [1, 2, 3, 4] (by decide) rfl) (fun _ _ _ _ _ => a0k rfl rfl rfl rfl (a0c (qq rfl))) ?_
            refine d_tk 23 rfl (by kernel_rfl) rfl rfl rfl rfl (hx55.sh ((hF17.trans hF18).trans hF19) [1, 2, 3, 4] (by decide) rfl) (fun _ _ _ _ _ => a0k rfl rfl rfl rfl (a0c (qq rfl))) ?_
            refine a0l 25 rfl (by kernel_rfl) ?_
            refine a0r sz37 rfl hx55 rfl rfl rfl rfl (i := 0) rfl rfl rfl rfl ?_
            intro wx52 hx56
            refine a0j (hx56.sh ((hF17.trans hF18).trans hF19) [1, 2, 3, 4] (by decide) rfl) ?_
            refine d_tk 26 rfl (by kernel_rfl) rfl rfl rfl rfl (hx56.sh ((hF17.trans hF18).trans hF19) [1, 2, 3, 4] (by decide) rfl) (fun _ _ _ _ _ => a0b rfl rfl rfl (a0c (qq rfl))) ?_
            refine a1t (by kernel_rfl) ?_
            refine a0n (fun a ha => ?_)
            cases hb5
            exact ⟨_, b17, as33, ns33, cs33, as34, ns34, cs34, ((hF17.trans hF18).trans hF19), hx56.pick [0, 1, 2, 3, 4] (by decide) rfl, hs33, hs34, ha.cut (l := [1, 3, 5, 6, 8, 13, 14, 17, 18, 19]) rfl⟩
          ·refine a1c ze37 rfl rfl rfl hx49 ?_
           intro b17 wx48 hx50
           refine a0j (hx50.sh (Frz.refl _) [3, 4, 5, 6] (by decide) rfl) ?_
           refine a0l 15 rfl (by kernel_rfl) ?_
           obtain ⟨l17, hr11, hb5⟩ := bind_some hb5
           refine a1b (r := rp_Frac) ap31 rfl rfl rfl hx50 rfl rfl (i := 1) rfl ((show RowN rp_Frac Fx4 0 [] [] from ⟨rfl, (rfl : RowR rp_Frac _ [] [])⟩)) hs27 hr11 ?_
           intro as31 cs31 wx49 xss31 hx51 hs31
           refine a0j (hx51.sh (Frz.refl _) [3, 4, 5, 6] (by decide) rfl) ?_
           refine a0l 19 rfl (by kernel_rfl) ?_
           obtain ⟨l18, hr12, hb5⟩ := bind_some hb5
           refine a1b (r := rp_Frac) ap31 rfl rfl rfl hx51 rfl rfl (i := 1) rfl hs31 hs28 hr12 ?_
           intro as32 cs32 wx50 xss32 hx52 hs32
           refine a0j (hx52.sh (Frz.refl _) [3, 4, 5, 6] (by decide) rfl) ?_
           refine a0l 20 rfl (by kernel_rfl) ?_
           obtain ⟨Fx17, hF17, hx53, hsx5⟩ := a0o hx52 (i := 2) rfl hs30
           obtain ⟨Fx18, hF18, hx54, hsx6⟩ := a0o hx53 (i := 1) rfl (hs32.mono hF17)
           have hG5 := ((((hF1.trans hF2).trans hF3).trans hF4).trans hF17).trans hF18
           obtain ⟨v14, hv9, hb5⟩ := bind_some hb5
           refine a0g ent7 rfl rfl rfl rfl hx54 (a1j _ _ _ _ _ _ hv9 hx54.sat (hs1.mono hG5) (hsx5.mono hF18) ((hsx1.mono hF17).mono hF18) hsx6) ?_
           rintro _ Fx19 _ wx51 hF19 hx55 ⟨as33, ns33, cs33, as34, ns34, cs34, rfl, rfl, hs33, hs34⟩
           refine a0j (hx55.sh ((hF17.trans hF18).trans hF19) [1, 2, 3, 4] (by decide) rfl) ?_
           refine d_tk 21 rfl (by kernel_rfl) rfl rfl rfl rfl (hx55.sh ((hF17.trans hF18).trans hF19) [1, 2, 3, 4] (by decide) rfl) (fun _ _ _ _ _ => a0e rfl rfl rfl (a0c (qq rfl))) ?_
           refine d_tk 22 rfl (by kernel_rfl) rfl rfl rfl rfl (hx55.sh ((hF17.trans hF18).trans hF19) [1, 2, 3, 4] (by decide) rfl) (fun _ _ _ _ _ => a0k rfl rfl rfl rfl (a0c (qq rfl))) ?_
           refine d_tk 23 rfl (by kernel_rfl) rfl rfl rfl rfl (hx55.sh ((hF17.trans hF18).trans hF19) [1, 2, 3, 4] (by decide) rfl) (fun _ _ _ _ _ => a0k rfl rfl rfl rfl (a0c (qq rfl))) ?_
           refine a0l 25 rfl (by kernel_rfl) ?_
           refine a0r sz37 rfl hx55 rfl rfl rfl rfl (i := 0) rfl rfl rfl rfl ?_
           intro wx52 hx56
           refine a0j (hx56.sh ((hF17.trans hF18).trans hF19) [1, 2, 3, 4] (by decide) rfl) ?_
           refine d_tk 26 rfl (by kernel_rfl) rfl rfl rfl rfl (hx56.sh ((hF17.trans hF18).trans hF19) [1, 2, 3, 4] (by decide) rfl) (fun _ _ _ _ _ => a0b rfl rfl rfl (a0c (qq rfl))) ?_
           refine a1t (by kernel_rfl) ?_
           refine a0n (fun a ha => ?_)
           cases hb5
           exact ⟨_, b17, as33, ns33, cs33, as34, ns34, cs34, ((hF17.trans hF18).trans hF19), hx56.pick [0, 1, 2, 3, 4] (by decide) rfl, hs33, hs34, ha.cut (l := [1, 3, 5, 6, 8, 13, 14, 17, 18, 19]) rfl⟩
         ·refine a1c ze37 rfl rfl rfl hx48 ?_
          intro b16 wx47 hx49
          refine a0j (hx49.sh (Frz.refl _) [2, 3, 4, 5] (by decide) rfl) ?_
          refine a0l 11 rfl (by kernel_rfl) ?_
          refine a1a (e := 37) (cs := []) (q := 4) rfl rfl hx49 rfl (fun _ => by kernel_rfl) rfl rfl ?_
          intro b17 wx48 hx50
          refine a0j (hx50.sh (Frz.refl _) [3, 4, 5, 6] (by decide) rfl) ?_
          refine a0l 15 rfl (by kernel_rfl) ?_
          obtain ⟨l17, hr11, hb5⟩ := bind_some hb5
          refine a1b (r := rp_Frac) ap31 rfl rfl rfl hx50 rfl rfl (i := 0) rfl ((show RowN rp_Frac Fx4 0 [] [] from ⟨rfl, (rfl : RowR rp_Frac _ [] [])⟩)) hs27 hr11 ?_
          intro as31 cs31 wx49 xss31 hx51 hs31
          refine a0j (hx51.sh (Frz.refl _) [3, 4, 5, 6] (by decide) rfl) ?_
          refine a0l 19 rfl (by kernel_rfl) ?_
          obtain ⟨l18, hr12, hb5⟩ := bind_some hb5
          refine a1b (r := rp_Frac) ap31 rfl rfl rfl hx51 rfl rfl (i := 0) rfl hs31 hs28 hr12 ?_
          intro as32 cs32 wx50 xss32 hx52 hs32
          refine a0j (hx52.sh (Frz.refl _) [3, 4, 5, 6] (by decide) rfl) ?_
          refine a0l 20 rfl (by kernel_rfl) ?_
          obtain ⟨Fx17, hF17, hx53, hsx5⟩ := a0o hx52 (i := 2) rfl hs30
          obtain ⟨Fx18, hF18, hx54, hsx6⟩ := a0o hx53 (i := 0) rfl (hs32.mono hF17)
          have hG5 := ((((hF1.trans hF2).trans hF3).trans hF4).trans hF17).trans hF18
          obtain ⟨v14, hv9, hb5⟩ := bind_some hb5
          refine a0g ent7 rfl rfl rfl rfl hx54 (a1j _ _ _ _ _ _ hv9 hx54.sat (hs1.mono hG5) (hsx5.mono hF18) ((hsx1.mono hF17).mono hF18) hsx6) ?_
          rintro _ Fx19 _ wx51 hF19 hx55 ⟨as33, ns33, cs33, as34, ns34, cs34, rfl, rfl, hs33, hs34⟩
          refine a0j (hx55.sh ((hF17.trans hF18).trans hF19) [1, 2, 3, 4] (by decide) rfl) ?_
          refine d_tk 21 rfl (by kernel_rfl) rfl rfl rfl rfl (hx55.sh ((hF17.trans hF18).trans hF19) [1, 2, 3, 4] (by decide) rfl) (fun _ _ _ _ _ => a0e rfl rfl rfl (a0c (qq rfl))) ?_
          refine d_tk 22 rfl (by kernel_rfl) rfl rfl rfl rfl (hx55.sh ((hF17.trans hF18).trans hF19) [1, 2, 3, 4] (by decide) rfl) (fun _ _ _ _ _ => a0k rfl rfl rfl rfl (a0c (qq rfl))) ?_
          refine d_tk 23 rfl (by kernel_rfl) rfl rfl rfl rfl (hx55.sh ((hF17.trans hF18).trans hF19) [1, 2, 3, 4] (by decide) rfl) (fun _ _ _ _ _ => a0k rfl rfl rfl rfl (a0c (qq rfl))) ?_
          refine a0l 25 rfl (by kernel_rfl) ?_
          refine a0r sz37 rfl hx55 rfl rfl rfl rfl (i := 0) rfl rfl rfl rfl ?_
          intro wx52 hx56
          refine a0j (hx56.sh ((hF17.trans hF18).trans hF19) [1, 2, 3, 4] (by decide) rfl) ?_
          refine d_tk 26 rfl (by kernel_rfl) rfl rfl rfl rfl (hx56.sh ((hF17.trans hF18).trans hF19) [1, 2, 3, 4] (by decide) rfl) (fun _ _ _ _ _ => a0b rfl rfl rfl (a0c (qq rfl))) ?_
          refine a1t (by kernel_rfl) ?_
          refine a0n (fun a ha => ?_)
          cases hb5
          exact ⟨_, b16, as33, ns33, cs33, as34, ns34, cs34, ((hF17.trans hF18).trans hF19), hx56.pick [0, 1, 2, 3, 4] (by decide) rfl, hs33, hs34, ha.cut (l := [1, 3, 5, 6, 8, 13, 14, 17, 18, 19]) rfl⟩
        ·refine a1a (e := 37) (cs := []) (q := 4) rfl rfl hx47 rfl (fun _ => by kernel_rfl) rfl rfl ?_
         intro b16 wx46 hx48
         refine a0j (hx48.sh (Frz.refl _) [2, 3, 4, 5] (by decide) rfl) ?_
         refine a4j 9 24 rfl rfl (by kernel_rfl) ?_ ?_
         ·obtain ⟨l16, hr10, hb5⟩ := bind_some hb5
          refine a1b (r := Rp.str) ap27 rfl rfl rfl hx48 rfl rfl (i := 1) rfl hs29 hs26 hr10 ?_
          intro as30 cs30 wx47 xss30 hx49 hs30
          refine a0j (hx49.sh (Frz.refl _) [2, 3, 4, 5] (by decide) rfl) ?_
          refine a4j 15 24 rfl rfl (by kernel_rfl) ?_ ?_
          ·obtain ⟨l17, hr11, hb5⟩ := bind_some hb5
           refine a1b (r := rp_Frac) ap31 rfl rfl rfl hx49 rfl rfl (i := 0) rfl ((show RowN rp_Frac Fx4 0 [] [] from ⟨rfl, (rfl : RowR rp_Frac _ [] [])⟩)) hs27 hr11 ?_
           intro as31 cs31 wx48 xss31 hx50 hs31
           refine a0j (hx50.sh (Frz.refl _) [2, 3, 4, 5] (by decide) rfl) ?_
           refine a4j 19 24 rfl rfl (by kernel_rfl) ?_ ?_
           ·obtain ⟨l18, hr12, hb5⟩ := bind_some hb5
            refine a1b (r := rp_Frac) ap31 rfl rfl rfl hx50 rfl rfl (i := 0) rfl hs31 hs28 hr12 ?_
            intro as32 cs32 wx49 xss32 hx51 hs32
            refine a0j (hx51.sh (Frz.refl _) [2, 3, 4, 5] (by decide) rfl) ?_
            refine a4j 20 24 rfl rfl (by kernel_rfl) ?_ ?_
            ·obtain ⟨Fx17, hF17, hx52, hsx5⟩ := a0o hx51 (i := 1) rfl hs30
             obtain ⟨Fx18, hF18, hx53, hsx6⟩ := a0o hx52 (i := 0) rfl (hs32.mono hF17)
             have hG5 := ((((hF1.trans hF2).trans hF3).trans hF4).trans hF17).trans hF18
             obtain ⟨v14, hv9, hb5⟩ := bind_some hb5
             refine a0g ent7 rfl rfl rfl rfl hx53 (a1j _ _ _ _ _ _ hv9 hx53.sat (hs1.mono hG5) (hsx5.mono hF18) ((hsx1.mono hF17).mono hF18) hsx6) ?_
             rintro _ Fx19 _ wx50 hF19 hx54 ⟨as33, ns33, cs33, as34, ns34, cs34, rfl, rfl, hs33, hs34⟩
             refine a0j (hx54.sh ((hF17.trans hF18).trans hF19) [0, 1, 2, 3] (by decide) rfl) ?_
             refine d_tk 21 rfl (by kernel_rfl) rfl rfl rfl rfl (hx54.sh ((hF17.trans hF18).trans hF19) [0, 1, 2, 3] (by decide) rfl) (fun _ _ _ _ _ => a0e rfl rfl rfl (a0c (qq rfl))) ?_
             refine d_tk 22 rfl (by kernel_rfl) rfl rfl rfl rfl (hx54.sh ((hF17.trans hF18).trans hF19) [0, 1, 2, 3] (by decide) rfl) (fun _ _ _ _ _ => a0k rfl rfl rfl rfl (a0c (qq rfl))) ?_
             refine d_tk 23 rfl (by kernel_rfl) rfl rfl rfl rfl (hx54.sh ((hF17.trans hF18).trans hF19) [0, 1, 2, 3] (by decide) rfl) (fun _ _ _ _ _ => a0k rfl rfl rfl rfl (a0c (qq rfl))) ?_
             refine a0l 24 rfl (by kernel_rfl) ?_
             refine a1c ze37 rfl rfl rfl hx54 ?_
             intro b17 wx51 hx55
             refine a0j (hx55.sh ((hF17.trans hF18).trans hF19) [1, 2, 3, 4] (by decide) rfl) ?_
             refine a0l 25 rfl (by kernel_rfl) ?_
             refine a0r sz37 rfl hx55 rfl rfl rfl rfl (i := 0) rfl rfl rfl rfl ?_
             intro wx52 hx56
             refine a0j (hx56.sh ((hF17.trans hF18).trans hF19) [1, 2, 3, 4] (by decide) rfl) ?_
             refine d_tk 26 rfl (by kernel_rfl) rfl rfl rfl rfl (hx56.sh ((hF17.trans hF18).trans hF19) [1, 2, 3, 4] (by decide) rfl) (fun _ _ _ _ _ => a0b rfl rfl rfl (a0c (qq rfl))) ?_
             refine a1t (by kernel_rfl) ?_
             refine a0n (fun a ha => ?_)
             cases hb5
             exact ⟨_, b17, as33, ns33, cs33, as34, ns34, cs34, ((hF17.trans hF18).trans hF19), hx56.pick [0, 1, 2, 3, 4] (by decide) rfl, hs33, hs34, ha.cut (l := [1, 3, 5, 6, 8, 13, 14, 17, 18, 19]) rfl⟩
            ·refine a1c ze37 rfl rfl rfl hx51 ?_
             intro b17 wx50 hx52
             refine a0j (hx52.sh (Frz.refl _) [3, 4, 5, 6] (by decide) rfl) ?_
             refine a0l 20 rfl (by kernel_rfl) ?_
             obtain ⟨Fx17, hF17, hx53, hsx5⟩ := a0o hx52 (i := 2) rfl hs30
             obtain ⟨Fx18, hF18, hx54, hsx6⟩ := a0o hx53 (i := 1) rfl (hs32.mono hF17)
             have hG5 := ((((hF1.trans hF2).trans hF3).trans hF4).trans hF17).trans hF18
             obtain ⟨v14, hv9, hb5⟩ := bind_some hb5
             refine a0g ent7 rfl rfl rfl rfl hx54 (a1j _ _ _ _ _ _ hv9 hx54.sat (hs1.mono hG5) (hsx5.mono hF18) ((hsx1.mono hF17).mono hF18) hsx6) ?_
             rintro _ Fx19 _ wx51 hF19 hx55 ⟨as33, ns33, cs33, as34, ns34, cs34, rfl, rfl, hs33, hs34⟩
             refine a0j (hx55.sh ((hF17.trans hF18).trans hF19) [1, 2, 3, 4] (by decide) rfl) ?_
             refine d_tk 21 rfl (by kernel_rfl) rfl rfl rfl rfl (hx55.sh ((hF17.trans hF18).trans hF19) [1, 2, 3, 4] (by decide) rfl) (fun _ _ _ _ _ => a0e rfl rfl rfl (a0c (qq rfl))) ?_
             refine d_tk 22 rfl (by kernel_rfl) rfl rfl rfl rfl (hx55.sh ((hF17.trans hF18).trans hF19) [1, 2, 3, 4] (by decide) rfl) (fun _ _ _ _ _ => a0k rfl rfl rfl rfl (a0c (qq rfl))) ?_
             refine d_tk 23 rfl (by kernel_rfl) rfl rfl rfl rfl (hx55.sh ((hF17.trans hF18).trans hF19) [1, 2, 3, 4] (by decide) rfl) (fun _ _ _ _ _ => a0k rfl rfl rfl rfl (a0c (qq rfl))) ?_
             refine a0l 25 rfl (by kernel_rfl) ?_
             refine a0r sz37 rfl hx55 rfl rfl rfl rfl (i := 0) rfl rfl rfl rfl ?_
             intro wx52 hx56
             refine a0j (hx56.sh ((hF17.trans hF18).trans hF19) [1, 2, 3, 4] (by decide) rfl) ?_
             refine d_tk 26 rfl (by kernel_rfl) rfl rfl rfl rfl (hx56.sh ((hF17.trans hF18).trans hF19) [1, 2, 3, 4] (by decide) rfl) (fun _ _ _ _ _ => a0b rfl rfl rfl (a0c (qq rfl))) ?_
             refine a1t (by kernel_rfl) ?_
             refine a0n (fun a ha => ?_)
             cases hb5
             exact ⟨_, b17, as33, ns33, cs33, as34, ns34, cs34, ((hF17.trans hF18).trans hF19), hx56.pick [0, 1, 2, 3, 4] (by decide) rfl, hs33, hs34, ha.cut (l := [1, 3, 5, 6, 8, 13, 14, 17, 18, 19]) rfl⟩
           ·refine a1c ze37 rfl rfl rfl hx50 ?_
            intro b17 wx49 hx51
            refine a0j (hx51.sh (Frz.refl _) [3, 4, 5, 6] (by decide) rfl) ?_
            refine a0l 19 rfl (by kernel_rfl) ?_
            obtain ⟨l18, hr12, hb5⟩ := bind_some hb5
            refine a1b (r := rp_Frac) ap31 rfl rfl rfl hx51 rfl rfl (i := 1) rfl hs31 hs28 hr12 ?_
            intro as32 cs32 wx50 xss32 hx52 hs32
            refine a0j (hx52.sh (Frz.refl _) [3, 4, 5, 6] (by decide) rfl) ?_
            refine a0l 20 rfl (by kernel_rfl) ?_
            obtain ⟨Fx17, hF17, hx53, hsx5⟩ := a0o hx52 (i := 2) rfl hs30
            obtain ⟨Fx18, hF18, hx54, hsx6⟩ := a0o hx53 (i := 1) rfl (hs32.mono hF17)
            have hG5 := ((((hF1.trans hF2).trans hF3).trans hF4).trans hF17).trans hF18
            obtain ⟨v14, hv9, hb5⟩ := bind_some hb5
            refine a0g ent7 rfl rfl rfl rfl hx54 (a1j _ _ _ _ _ _ hv9 hx54.sat (hs1.mono hG5) (hsx5.mono hF18) ((hsx1.mono hF17).mono hF18) hsx6) ?_
            rintro _ Fx19 _ wx51 hF19 hx55 ⟨as33, ns33, cs33, as34, ns34, cs34, rfl, rfl, hs33, hs34⟩
            refine a0j (hx55.sh ((hF17.trans hF18).trans hF19) [1, 2, 3, 4] (by decide) rfl) ?_
            refine d_tk 21 rfl (by kernel_rfl) rfl rfl rfl rfl (hx55.sh ((hF17.trans hF18).trans hF19) [1, 2, 3, 4] (by decide) rfl) (fun _ _ _ _ _ => a0e rfl rfl rfl (a0c (qq rfl))) ?_
            refine d_tk 22 rfl (by kernel_rfl) rfl rfl rfl rfl (hx55.sh ((hF17.trans hF18).trans hF19) [1, 2, 3, 4] (by decide) rfl) (fun _ _ _ _ _ => a0k rfl rfl rfl rfl (a0c (qq rfl))) ?_
            refine d_tk 23 rfl (by kernel_rfl) rfl rfl rfl rfl (hx55.sh ((hF17.trans hF18).trans hF19) [1, 2, 3, 4] (by decide) rfl) (fun _ _ _ _ _ => a0k rfl rfl rfl rfl (a0c (qq rfl))) ?_
            refine a0l 25 rfl (by kernel_rfl) ?_
            refine a0r sz37 rfl hx55 rfl rfl rfl rfl (i := 0) rfl rfl rfl rfl ?_
            intro wx52 hx56
            refine a0j (hx56.sh ((hF17.trans hF18).trans hF19) [1, 2, 3, 4] (by decide) rfl) ?_
            refine d_tk 26 rfl (by kernel_rfl) rfl rfl rfl rfl (hx56.sh ((hF17.trans hF18).trans hF19) [1, 2, 3, 4] (by decide) rfl) (fun _ _ _ _ _ => a0b rfl rfl rfl (a0c (qq rfl))) ?_
            refine a1t (by kernel_rfl) ?_
            refine a0n (fun a ha => ?_)
            cases hb5
            exact ⟨_, b17, as33, ns33, cs33, as34, ns34, cs34, ((hF17.trans hF18).trans hF19), hx56.pick [0, 1, 2, 3, 4] (by decide) rfl, hs33, hs34, ha.cut (l := [1, 3, 5, 6, 8, 13, 14, 17, 18, 19]) rfl⟩
          ·refine a1c ze37 rfl rfl rfl hx49 ?_
           intro b17 wx48 hx50
           refine a0j (hx50.sh (Frz.refl _) [3, 4, 5, 6] (by decide) rfl) ?_
           refine a0l 15 rfl (by kernel_rfl) ?_
           obtain ⟨l17, hr11, hb5⟩ := bind_some hb5
           refine a1b (r := rp_Frac) ap31 rfl rfl rfl hx50 rfl rfl (i := 1) rfl ((show RowN rp_Frac Fx4 0 [] [] from ⟨rfl, (rfl : RowR rp_Frac _ [] [])⟩)) hs27 hr11 ?_
           intro as31 cs31 wx49 xss31 hx51 hs31
           refine a0j (hx51.sh (Frz.refl _) [3, 4, 5, 6] (by decide) rfl) ?_
           refine a0l 19 rfl (by kernel_rfl) ?_
           obtain ⟨l18, hr12, hb5⟩ := bind_some hb5
           refine a1b (r := rp_Frac) ap31 rfl rfl rfl hx51 rfl rfl (i := 1) rfl hs31 hs28 hr12 ?_
           intro as32 cs32 wx50 xss32 hx52 hs32
           refine a0j (hx52.sh (Frz.refl _) [3, 4, 5, 6] (by decide) rfl) ?_
           refine a0l 20 rfl (by kernel_rfl) ?_
           obtain ⟨Fx17, hF17, hx53, hsx5⟩ := a0o hx52 (i := 2) rfl hs30
           obtain ⟨Fx18, hF18, hx54, hsx6⟩ := a0o hx53 (i := 1) rfl (hs32.mono hF17)
           have hG5 := ((((hF1.trans hF2).trans hF3).trans hF4).trans hF17).trans hF18
           obtain ⟨v14, hv9, hb5⟩ := bind_some hb5
           refine a0g ent7 rfl rfl rfl rfl hx54 (a1j _ _ _ _ _ _ hv9 hx54.sat (hs1.mono hG5) (hsx5.mono hF18) ((hsx1.mono hF17).mono hF18) hsx6) ?_
           rintro _ Fx19 _ wx51 hF19 hx55 ⟨as33, ns33, cs33, as34, ns34, cs34, rfl, rfl, hs33, hs34⟩
           refine a0j (hx55.sh ((hF17.trans hF18).trans hF19) [1, 2, 3, 4] (by decide) rfl) ?_
           refine d_tk 21 rfl (by kernel_rfl) rfl rfl rfl rfl (hx55.sh ((hF17.trans hF18).trans hF19) [1, 2, 3, 4] (by decide) rfl) (fun _ _ _ _ _ => a0e rfl rfl rfl (a0c (qq rfl))) ?_
           refine d_tk 22 rfl (by kernel_rfl) rfl rfl rfl rfl (hx55.sh ((hF17.trans hF18).trans hF19) [1, 2, 3, 4] (by decide) rfl) (fun _ _ _ _ _ => a0k rfl rfl rfl rfl (a0c (qq rfl))) ?_
           refine d_tk 23 rfl (by kernel_rfl) rfl rfl rfl rfl (hx55.sh ((hF17.trans hF18).trans hF19) [1, 2, 3, 4] (by decide) rfl) (fun _ _ _ _ _ => a0k rfl rfl rfl rfl (a0c (qq rfl))) ?_
           refine a0l 25 rfl (by kernel_rfl) ?_
           refine a0r sz37 rfl hx55 rfl rfl rfl rfl (i := 0) rfl rfl rfl rfl ?_
           intro wx52 hx56
           refine a0j (hx56.sh ((hF17.trans hF18).trans hF19) [1, 2, 3, 4] (by decide) rfl) ?_
           refine d_tk 26 rfl (by kernel_rfl) rfl rfl rfl rfl (hx56.sh ((hF17.trans hF18).trans hF19) [1, 2, 3, 4] (by decide) rfl) (fun _ _ _ _ _ => a0b rfl rfl rfl (a0c (qq rfl))) ?_
           refine a1t (by kernel_rfl) ?_
           refine a0n (fun a ha => ?_)
           cases hb5
           exact ⟨_, b17, as33, ns33, cs33, as34, ns34, cs34, ((hF17.trans hF18).trans hF19), hx56.pick [0, 1, 2, 3, 4] (by decide) rfl, hs33, hs34, ha.cut (l := [1, 3, 5, 6, 8, 13, 14, 17, 18, 19]) rfl⟩
         ·refine a1c ze37 rfl rfl rfl hx48 ?_
          intro b17 wx47 hx49
          refine a0j (hx49.sh (Frz.refl _) [3, 4, 5, 6] (by decide) rfl) ?_
          refine a0l 9 rfl (by kernel_rfl) ?_
          obtain ⟨l16, hr10, hb5⟩ := bind_some hb5
          refine a1b (r := Rp.str) ap27 rfl rfl rfl hx49 rfl rfl (i := 2) rfl hs29 hs26 hr10 ?_
          intro as30 cs30 wx48 xss30 hx50 hs30
          refine a0j (hx50.sh (Frz.refl _) [3, 4, 5, 6] (by decide) rfl) ?_
          refine a0l 15 rfl (by kernel_rfl) ?_
          obtain ⟨l17, hr11, hb5⟩ := bind_some hb5
          refine a1b (r := rp_Frac) ap31 rfl rfl rfl hx50 rfl rfl (i := 1) rfl ((show RowN rp_Frac Fx4 0 [] [] from ⟨rfl, (rfl : RowR rp_Frac _ [] [])⟩)) hs27 hr11 ?_
          intro as31 cs31 wx49 xss31 hx51 hs31
          refine a0j (hx51.sh (Frz.refl _) [3, 4, 5, 6] (by decide) rfl) ?_
          refine a0l 19 rfl (by kernel_rfl) ?_
          obtain ⟨l18, hr12, hb5⟩ := bind_some hb5
          refine a1b (r := rp_Frac) ap31 rfl rfl rfl hx51 rfl rfl (i := 1) rfl hs31 hs28 hr12 ?_
          intro as32 cs32 wx50 xss32 hx52 hs32
          refine a0j (hx52.sh (Frz.refl _) [3, 4, 5, 6] (by decide) rfl) ?_
          refine a0l 20 rfl (by kernel_rfl) ?_
          obtain ⟨Fx17, hF17, hx53, hsx5⟩ := a0o hx52 (i := 2) rfl hs30
          obtain ⟨Fx18, hF18, hx54, hsx6⟩ := a0o hx53 (i := 1) rfl (hs32.mono hF17)
          have hG5 := ((((hF1.trans hF2).trans hF3).trans hF4).trans hF17).trans hF18
          obtain ⟨v14, hv9, hb5⟩ := bind_some hb5
          refine a0g ent7 rfl rfl rfl rfl hx54 (a1j _ _ _ _ _ _ hv9 hx54.sat (hs1.mono hG5) (hsx5.mono hF18) ((hsx1.mono hF17).mono hF18) hsx6) ?_
          rintro _ Fx19 _ wx51 hF19 hx55 ⟨as33, ns33, cs33, as34, ns34, cs34, rfl, rfl, hs33, hs34⟩
          refine a0j (hx55.sh ((hF17.trans hF18).trans hF19) [1, 2, 3, 4] (by decide) rfl) ?_
          refine d_tk 21 rfl (by kernel_rfl) rfl rfl rfl rfl (hx55.sh ((hF17.trans hF18).trans hF19) [1, 2, 3, 4] (by decide) rfl) (fun _ _ _ _ _ => a0e rfl rfl rfl (a0c (qq rfl))) ?_
          refine d_tk 22 rfl (by kernel_rfl) rfl rfl rfl rfl (hx55.sh ((hF17.trans hF18).trans hF19) [1, 2, 3, 4] (by decide) rfl) (fun _ _ _ _ _ => a0k rfl rfl rfl rfl (a0c (qq rfl))) ?_
          refine d_tk 23 rfl (by kernel_rfl) rfl rfl rfl rfl (hx55.sh ((hF17.trans hF18).trans hF19) [1, 2, 3, 4] (by decide) rfl) (fun _ _ _ _ _ => a0k rfl rfl rfl rfl (a0c (qq rfl))) ?_
          refine a0l 25 rfl (by kernel_rfl) ?_
          refine a0r sz37 rfl hx55 rfl rfl rfl rfl (i := 0) rfl rfl rfl rfl ?_
          intro wx52 hx56
          refine a0j (hx56.sh ((hF17.trans hF18).trans hF19) [1, 2, 3, 4] (by decide) rfl) ?_
          refine d_tk 26 rfl (by kernel_rfl) rfl rfl rfl rfl (hx56.sh ((hF17.trans hF18).trans hF19) [1, 2, 3, 4] (by decide) rfl) (fun _ _ _ _ _ => a0b rfl rfl rfl (a0c (qq rfl))) ?_
          refine a1t (by kernel_rfl) ?_
          refine a0n (fun a ha => ?_)
          cases hb5
          exact ⟨_, b17, as33, ns33, cs33, as34, ns34, cs34, ((hF17.trans hF18).trans hF19), hx56.pick [0, 1, 2, 3, 4] (by decide) rfl, hs33, hs34, ha.cut (l := [1, 3, 5, 6, 8, 13, 14, 17, 18, 19]) rfl⟩
        ·refine a1c ze37 rfl rfl rfl hx47 ?_
         intro b16 wx46 hx48
         refine a0j (hx48.sh (Frz.refl _) [2, 3, 4, 5] (by decide) rfl) ?_
         refine a4j 9 11 rfl rfl (by kernel_rfl) ?_ ?_
         ·obtain ⟨l16, hr10, hb5⟩ := bind_some hb5
          refine a1b (r := Rp.str) ap27 rfl rfl rfl hx48 rfl rfl (i := 1) rfl hs29 hs26 hr10 ?_
          intro as30 cs30 wx47 xss30 hx49 hs30
          refine a0j (hx49.sh (Frz.refl _) [2, 3, 4, 5] (by decide) rfl) ?_
          refine a0l 11 rfl (by kernel_rfl) ?_
          refine a1a (e := 37) (cs := []) (q := 4) rfl rfl hx49 rfl (fun _ => by kernel_rfl) rfl rfl ?_
          intro b17 wx48 hx50
          refine a0j (hx50.sh (Frz.refl _) [3, 4, 5, 6] (by decide) rfl) ?_
          refine a0l 15 rfl (by kernel_rfl) ?_
          obtain ⟨l17, hr11, hb5⟩ := bind_some hb5
          refine a1b (r := rp_Frac) ap31 rfl rfl rfl hx50 rfl rfl (i := 0) rfl ((show RowN rp_Frac Fx4 0 [] [] from ⟨rfl, (rfl : RowR rp_Frac _ [] [])⟩)) hs27 hr11 ?_
          intro as31 cs31 wx49 xss31 hx51 hs31
          refine a0j (hx51.sh (Frz.refl _) [3, 4, 5, 6] (by decide) rfl) ?_
          refine a0l 19 rfl (by kernel_rfl) ?_
          obtain ⟨l18, hr12, hb5⟩ := bind_some hb5
          refine a1b (r := rp_Frac) ap31 rfl rfl rfl hx51 rfl rfl (i := 0) rfl hs31 hs28 hr12 ?_
          intro as32 cs32 wx50 xss32 hx52 hs32
          refine a0j (hx52.sh (Frz.refl _) [3, 4, 5, 6] (by decide) rfl) ?_
          refine a0l 20 rfl (by kernel_rfl) ?_
          obtain ⟨Fx17, hF17, hx53, hsx5⟩ := a0o hx52 (i := 2) rfl hs30
          obtain ⟨Fx18, hF18, hx54, hsx6⟩ := a0o hx53 (i := 0) rfl (hs32.mono hF17)
          have hG5 := ((((hF1.trans hF2).trans hF3).trans hF4).trans hF17).trans hF18
          obtain ⟨v14, hv9, hb5⟩ := bind_some hb5
          refine a0g ent7 rfl rfl rfl rfl hx54 (a1j _ _ _ _ _ _ hv9 hx54.sat (hs1.mono hG5) (hsx5.mono hF18) ((hsx1.mono hF17).mono hF18) hsx6) ?_
          rintro _ Fx19 _ wx51 hF19 hx55 ⟨as33, ns33, cs33, as34, ns34, cs34, rfl, rfl, hs33, hs34⟩
          refine a0j (hx55.sh ((hF17.trans hF18).trans hF19) [1, 2, 3, 4] (by decide) rfl) ?_
          refine d_tk 21 rfl (by kernel_rfl) rfl rfl rfl rfl (hx55.sh ((hF17.trans hF18).trans hF19) [1, 2, 3, 4] (by decide) rfl) (fun _ _ _ _ _ => a0e rfl rfl rfl (a0c (qq rfl))) ?_
          refine d_tk 22 rfl (by kernel_rfl) rfl rfl rfl rfl (hx55.sh ((hF17.trans hF18).trans hF19) [1, 2, 3, 4] (by decide) rfl) (fun _ _ _ _ _ => a0k rfl rfl rfl rfl (a0c (qq rfl))) ?_
          refine d_tk 23 rfl (by kernel_rfl) rfl rfl rfl rfl (hx55.sh ((hF17.trans hF18).trans hF19) [1, 2, 3, 4] (by decide) rfl) (fun _ _ _ _ _ => a0k rfl rfl rfl rfl (a0c (qq rfl))) ?_
          refine a0l 25 rfl (by kernel_rfl) ?_
          refine a0r sz37 rfl hx55 rfl rfl rfl rfl (i := 0) rfl rfl rfl rfl ?_
          intro wx52 hx56
          refine a0j (hx56.sh ((hF17.trans hF18).trans hF19) [1, 2, 3, 4] (by decide) rfl) ?_
          refine d_tk 26 rfl (by kernel_rfl) rfl rfl rfl rfl (hx56.sh ((hF17.trans hF18).trans hF19) [1, 2, 3, 4] (by decide) rfl) (fun _ _ _ _ _ => a0b rfl rfl rfl (a0c (qq rfl))) ?_
          refine a1t (by kernel_rfl) ?_
          refine a0n (fun a ha => ?_)
          cases hb5
          exact ⟨_, b16, as33, ns33, cs33, as34, ns34, cs34, ((hF17.trans hF18).trans hF19), hx56.pick [0, 1, 2, 3, 4] (by decide) rfl, hs33, hs34, ha.cut (l := [1, 3, 5, 6, 8, 13, 14, 17, 18, 19]) rfl⟩
         ·refine a1a (e := 37) (cs := []) (q := 4) rfl rfl hx48 rfl (fun _ => by kernel_rfl) rfl rfl ?_
          intro b17 wx47 hx49
          refine a0j (hx49.sh (Frz.refl _) [3, 4, 5, 6] (by decide) rfl) ?_
          refine a0l 9 rfl (by kernel_rfl) ?_
          obtain ⟨l16, hr10, hb5⟩ := bind_some hb5
          refine a1b (r := Rp.str) ap27 rfl rfl rfl hx49 rfl rfl (i := 2) rfl hs29 hs26 hr10 ?_
          intro as30 cs30 wx48 xss30 hx50 hs30
          refine a0j (hx50.sh (Frz.refl _) [3, 4, 5, 6] (by decide) rfl) ?_
          refine a0l 15 rfl (by kernel_rfl) ?_
          obtain ⟨l17, hr11, hb5⟩ := bind_some hb5
          refine a1b (r := rp_Frac) ap31 rfl rfl rfl hx50 rfl rfl (i := 0) rfl ((show RowN rp_Frac Fx4 0 [] [] from ⟨rfl, (rfl : RowR rp_Frac _ [] [])⟩)) hs27 hr11 ?_
          intro as31 cs31 wx49 xss31 hx51 hs31
          refine a0j (hx51.sh (Frz.refl _) [3, 4, 5, 6] (by decide) rfl) ?_
          refine a0l 19 rfl (by kernel_rfl) ?_
          obtain ⟨l18, hr12, hb5⟩ := bind_some hb5
          refine a1b (r := rp_Frac) ap31 rfl rfl rfl hx51 rfl rfl (i := 0) rfl hs31 hs28 hr12 ?_
          intro as32 cs32 wx50 xss32 hx52 hs32
          refine a0j (hx52.sh (Frz.refl _) [3, 4, 5, 6] (by decide) rfl) ?_
          refine a0l 20 rfl (by kernel_rfl) ?_
          obtain ⟨Fx17, hF17, hx53, hsx5⟩ := a0o hx52 (i := 2) rfl hs30
          obtain ⟨Fx18, hF18, hx54, hsx6⟩ := a0o hx53 (i := 0) rfl (hs32.mono hF17)
          have hG5 := ((((hF1.trans hF2).trans hF3).trans hF4).trans hF17).trans hF18
          obtain ⟨v14, hv9, hb5⟩ := bind_some hb5
          refine a0g ent7 rfl rfl rfl rfl hx54 (a1j _ _ _ _ _ _ hv9 hx54.sat (hs1.mono hG5) (hsx5.mono hF18) ((hsx1.mono hF17).mono hF18) hsx6) ?_
          rintro _ Fx19 _ wx51 hF19 hx55 ⟨as33, ns33, cs33, as34, ns34, cs34, rfl, rfl, hs33, hs34⟩
          refine a0j (hx55.sh ((hF17.trans hF18).trans hF19) [1, 2, 3, 4] (by decide) rfl) ?_
          refine d_tk 21 rfl (by kernel_rfl) rfl rfl rfl rfl (hx55.sh ((hF17.trans hF18).trans hF19) [1, 2, 3, 4] (by decide) rfl) (fun _ _ _ _ _ => a0e rfl rfl rfl (a0c (qq rfl))) ?_
          refine d_tk 22 rfl (by kernel_rfl) rfl rfl rfl rfl (hx55.sh ((hF17.trans hF18).trans hF19) [1, 2, 3, 4] (by decide) rfl) (fun _ _ _ _ _ => a0k rfl rfl rfl rfl (a0c (qq rfl))) ?_
          refine d_tk 23 rfl (by kernel_rfl) rfl rfl rfl rfl (hx55.sh ((hF17.trans hF18).trans hF19) [1, 2, 3, 4] (by decide) rfl) (fun _ _ _ _ _ => a0k rfl rfl rfl rfl (a0c (qq rfl))) ?_
          refine a0l 25 rfl (by kernel_rfl) ?_
          refine a0r sz37 rfl hx55 rfl rfl rfl rfl (i := 0) rfl rfl rfl rfl ?_
          intro wx52 hx56
          refine a0j (hx56.sh ((hF17.trans hF18).trans hF19) [1, 2, 3, 4] (by decide) rfl) ?_
          refine d_tk 26 rfl (by kernel_rfl) rfl rfl rfl rfl (hx56.sh ((hF17.trans hF18).trans hF19) [1, 2, 3, 4] (by decide) rfl) (fun _ _ _ _ _ => a0b rfl rfl rfl (a0c (qq rfl))) ?_
          refine a1t (by kernel_rfl) ?_
          refine a0n (fun a ha => ?_)
          cases hb5
          exact ⟨_, b16, as33, ns33, cs33, as34, ns34, cs34, ((hF17.trans hF18).trans hF19), hx56.pick [0, 1, 2, 3, 4] (by decide) rfl, hs33, hs34, ha.cut (l := [1, 3, 5, 6, 8, 13, 14, 17, 18, 19]) rfl⟩
       ·refine a1a (e := 37) (cs := []) (q := 4) rfl rfl hx46 rfl (fun _ => by kernel_rfl) rfl rfl ?_
        intro b16 wx45 hx47
        refine a0j (hx47.sh (Frz.refl _) [2, 3, 4, 5] (by decide) rfl) ?_
        refine a4j 5 24 rfl rfl (by kernel_rfl) ?_ ?_
        ·obtain ⟨l15, hr9, hb5⟩ := bind_some hb5
         refine a1b (r := Rp.str) ap27 rfl rfl rfl hx47 rfl rfl (i := 1) rfl ((show RowN Rp.str Fx4 0 [] [] from ⟨rfl, (rfl : RowR Rp.str _ [] [])⟩)) hs25 hr9 ?_
         intro as29 cs29 wx46 xss29 hx48 hs29
         refine a0j (hx48.sh (Frz.refl _) [2, 3, 4, 5] (by decide) rfl) ?_
         refine a4j 9 24 rfl rfl (by kernel_rfl) ?_ ?_
         ·obtain ⟨l16, hr10, hb5⟩ := bind_some hb5
          refine a1b (r := Rp.str) ap27 rfl rfl rfl hx48 rfl rfl (i := 1) rfl hs29 hs26 hr10 ?_
          intro as30 cs30 wx47 xss30 hx49 hs30
          refine a0j (hx49.sh (Frz.refl _) [2, 3, 4, 5] (by decide) rfl) ?_
          refine a4j 15 24 rfl rfl (by kernel_rfl) ?_ ?_
          ·obtain ⟨l17, hr11, hb5⟩ := bind_some hb5
           refine a1b (r := rp_Frac) ap31 rfl rfl rfl hx49 rfl rfl (i := 0) rfl ((show RowN rp_Frac Fx4 0 [] [] from ⟨rfl, (rfl : RowR rp_Frac _ [] [])⟩)) hs27 hr11 ?_
           intro as31 cs31 wx48 xss31 hx50 hs31
           refine a0j (hx50.sh (Frz.refl _) [2, 3, 4, 5] (by decide) rfl) ?_
           refine a4j 19 24 rfl rfl (by kernel_rfl) ?_ ?_
           ·obtain ⟨l18, hr12, hb5⟩ := bind_some hb5
            refine a1b (r := rp_Frac) ap31 rfl rfl rfl hx50 rfl rfl (i := 0) rfl hs31 hs28 hr12 ?_
            intro as32 cs32 wx49 xss32 hx51 hs32
            refine a0j (hx51.sh (Frz.refl _) [2, 3, 4, 5] (by decide) rfl) ?_
            refine a4j 20 24 rfl rfl (by kernel_rfl) ?_ ?_
            ·obtain ⟨Fx17, hF17, hx52, hsx5⟩ := a0o hx51 (i := 1) rfl hs30
             obtain ⟨Fx18, hF18, hx53, hsx6⟩ := a0o hx52 (i := 0) rfl (hs32.mono hF17)
             have hG5 := ((((hF1.trans hF2).trans hF3).trans hF4).trans hF17).trans hF18
             obtain ⟨v14, hv9, hb5⟩ := bind_some hb5
             refine a0g ent7 rfl rfl rfl rfl hx53 (a1j _ _ _ _ _ _ hv9 hx53.sat (hs1.mono hG5) (hsx5.mono hF18) ((hsx1.mono hF17).mono hF18) hsx6) ?_
             rintro _ Fx19 _ wx50 hF19 hx54 ⟨as33, ns33, cs33, as34, ns34, cs34, rfl, rfl, hs33, hs34⟩
             refine a0j (hx54.sh ((hF17.trans hF18).trans hF19) [0, 1, 2, 3] (by decide) rfl) ?_
             refine d_tk 21 rfl (by kernel_rfl) rfl rfl rfl rfl (hx54.sh ((hF17.trans hF18).trans hF19) [0, 1, 2, 3] (by decide) rfl) (fun _ _ _ _ _ => a0e rfl rfl rfl (a0c (qq rfl))) ?_
             refine d_tk 22 rfl (by kernel_rfl) rfl rfl rfl rfl (hx54.sh ((hF17.trans hF18).trans hF19) [0, 1, 2, 3] (by decide) rfl) (fun _ _ _ _ _ => a0k rfl rfl rfl rfl (a0c (qq rfl))) ?_
             refine d_tk 23 rfl (by kernel_rfl) rfl rfl rfl rfl (hx54.sh ((hF17.trans hF18).trans hF19) [0, 1, 2, 3] (by decide) rfl) (fun _ _ _ _ _ => a0k rfl rfl rfl rfl (a0c (qq rfl))) ?_
             refine a0l 24 rfl (by kernel_rfl) ?_
             refine a1c ze37 rfl rfl rfl hx54 ?_
             intro b17 wx51 hx55
             refine a0j (hx55.sh ((hF17.trans hF18).trans hF19) [1, 2, 3, 4] (by decide) rfl) ?_
             refine a0l 25 rfl (by kernel_rfl) ?_
             refine a0r sz37 rfl hx55 rfl rfl rfl rfl (i := 0) rfl rfl rfl rfl ?_
             intro wx52 hx56
             refine a0j (hx56.sh ((hF17.trans hF18).trans hF19) [1, 2, 3, 4] (by decide) rfl) ?_
             refine d_tk 26 rfl (by kernel_rfl) rfl rfl rfl rfl (hx56.sh ((hF17.trans hF18).trans hF19) [1, 2, 3, 4] (by decide) rfl) (fun _ _ _ _ _ => a0b rfl rfl rfl (a0c (qq rfl))) ?_
             refine a1t (by kernel_rfl) ?_
             refine a0n (fun a ha => ?_)
             cases hb5
             exact ⟨_, b17, as33, ns33, cs33, as34, ns34, cs34, ((hF17.trans hF18).trans hF19), hx56.pick [0, 1, 2, 3, 4] (by decide) rfl, hs33, hs34, ha.cut (l := [1, 3, 5, 6, 8, 13, 14, 17, 18, 19]) rfl⟩
            ·refine a1c ze37 rfl rfl rfl hx51 ?_
             intro b17 wx50 hx52
             refine a0j (hx52.sh (Frz.refl _) [3, 4, 5, 6] (by decide) rfl) ?_
             refine a0l 20 rfl (by kernel_rfl) ?_
             obtain ⟨Fx17, hF17, hx53, hsx5⟩ := a0o hx52 (i := 2) rfl hs30
             obtain ⟨Fx18, hF18, hx54, hsx6⟩ := a0o hx53 (i := 1) rfl (hs32.mono hF17)
             have hG5 := ((((hF1.trans hF2).trans hF3).trans hF4).trans hF17).trans hF18
             obtain ⟨v14, hv9, hb5⟩ := bind_some hb5
             refine a0g ent7 rfl rfl rfl rfl hx54 (a1j _ _ _ _ _ _ hv9 hx54.sat (hs1.mono hG5) (hsx5.mono hF18) ((hsx1.mono hF17).mono hF18) hsx6) ?_
             rintro _ Fx19 _ wx51 hF19 hx55 ⟨as33, ns33, cs33, as34, ns34, cs34, rfl, rfl, hs33, hs34⟩
             refine a0j (hx55.sh ((hF17.trans hF18).trans hF19) [1, 2, 3, 4] (by decide) rfl) ?_
             refine d_tk 21 rfl (by kernel_rfl) rfl rfl rfl rfl (hx55.sh ((hF17.trans hF18).trans hF19) [1, 2, 3, 4] (by decide) rfl) (fun _ _ _ _ _ => a0e rfl rfl rfl (a0c (qq rfl))) ?_
             refine d_tk 22 rfl (by kernel_rfl) rfl rfl rfl rfl (hx55.sh ((hF17.trans hF18).trans hF19) [1, 2, 3, 4] (by decide) rfl) (fun _ _ _ _ _ => a0k rfl rfl rfl rfl (a0c (qq rfl))) ?_
             refine d_tk 23 rfl (by kernel_rfl) rfl rfl rfl rfl (hx55.sh ((hF17.trans hF18).trans hF19) [1, 2, 3, 4] (by decide) rfl) (fun _ _ _ _ _ => a0k rfl rfl rfl rfl (a0c (qq rfl))) ?_
             refine a0l 25 rfl (by kernel_rfl) ?_
             refine a0r sz37 rfl hx55 rfl rfl rfl rfl (i := 0) rfl rfl rfl rfl ?_
             intro wx52 hx56
             refine a0j (hx56.sh ((hF17.trans hF18).trans hF19) [1, 2, 3, 4] (by decide) rfl) ?_
             refine d_tk 26 rfl (by kernel_rfl) rfl rfl rfl rfl (hx56.sh ((hF17.trans hF18).trans hF19) [1, 2, 3, 4] (by decide) rfl) (fun _ _ _ _ _ => a0b rfl rfl rfl (a0c (qq rfl))) ?_
             refine a1t (by kernel_rfl) ?_
             refine a0n (fun a ha => ?_)
             cases hb5
             exact ⟨_, b17, as33, ns33, cs33, as34, ns34, cs34, ((hF17.trans hF18).trans hF19), hx56.pick [0, 1, 2, 3, 4] (by decide) rfl, hs33, hs34, ha.cut (l := [1, 3, 5, 6, 8, 13, 14, 17, 18, 19]) rfl⟩
           ·refine a1c ze37 rfl rfl rfl hx50 ?_
            intro b17 wx49 hx51
            refine a0j (hx51.sh (Frz.refl _) [3, 4, 5, 6] (by decide) rfl) ?_
            refine a0l 19 rfl (by kernel_rfl) ?_
            obtain ⟨l18, hr12, hb5⟩ := bind_some hb5
            refine a1b (r := rp_Frac) ap31 rfl rfl rfl hx51 rfl rfl (i := 1) rfl hs31 hs28 hr12 ?_
            intro as32 cs32 wx50 xss32 hx52 hs32
            refine a0j (hx52.sh (Frz.refl _) [3, 4, 5, 6] (by decide) rfl) ?_
            refine a0l 20 rfl (by kernel_rfl) ?_
            obtain ⟨Fx17, hF17, hx53, hsx5⟩ := a0o hx52 (i := 2) rfl hs30
            obtain ⟨Fx18, hF18, hx54, hsx6⟩ := a0o hx53 (i := 1) rfl (hs32.mono hF17)
            have hG5 := ((((hF1.trans hF2).trans hF3).trans hF4).trans hF17).trans hF18
            obtain ⟨v14, hv9, hb5⟩ := bind_some hb5
            refine a0g ent7 rfl rfl rfl rfl hx54 (a1j _ _ _ _ _ _ hv9 hx54.sat (hs1.mono hG5) (hsx5.mono hF18) ((hsx1.mono hF17).mono hF18) hsx6) ?_
            rintro _ Fx19 _ wx51 hF19 hx55 ⟨as33, ns33, cs33, as34, ns34, cs34, rfl, rfl, hs33, hs34⟩
            refine a0j (hx55.sh ((hF17.trans hF18).trans hF19) [1, 2, 3, 4] (by decide) rfl) ?_
            refine d_tk 21 rfl (by kernel_rfl) rfl rfl rfl rfl (hx55.sh ((hF17.trans hF18).trans hF19) [1, 2, 3, 4] (by decide) rfl) (fun _ _ _ _ _ => a0e rfl rfl rfl (a0c (qq rfl))) ?_
            refine d_tk 22 rfl (by kernel_rfl) rfl rfl rfl rfl (hx55.sh ((hF17.trans hF18).trans hF19) [1, 2, 3, 4] (by decide) rfl) (fun _ _ _ _ _ => a0k rfl rfl rfl rfl (a0c (qq rfl))) ?_
            refine d_tk 23 rfl (by kernel_rfl) rfl rfl rfl rfl (hx55.sh ((hF17.trans hF18).trans hF19) [1, 2, 3, 4] (by decide) rfl) (fun _ _ _ _ _ => a0k rfl rfl rfl rfl (a0c (qq rfl))) ?_
            refine a0l 25 rfl (by kernel_rfl) ?_
            refine a0r sz37 rfl hx55 rfl rfl rfl rfl (i := 0) rfl rfl rfl rfl ?_
            intro wx52 hx56
            refine a0j (hx56.sh ((hF17.trans hF18).trans hF19) [1, 2, 3, 4] (by decide) rfl) ?_
            refine d_tk 26 rfl (by kernel_rfl) rfl rfl rfl rfl (hx56.sh ((hF17.trans hF18).trans hF19) [1, 2, 3, 4] (by decide) rfl) (fun _ _ _ _ _ => a0b rfl rfl rfl (a0c (qq rfl))) ?_
            refine a1t (by kernel_rfl) ?_
            refine a0n (fun a ha => ?_)
            cases hb5
            exact ⟨_, b17, as33, ns33, cs33, as34, ns34, cs34, ((hF17.trans hF18).trans hF19), hx56.pick [0, 1, 2, 3, 4] (by decide) rfl, hs33, hs34, ha.cut (l := [1, 3, 5, 6, 8, 13, 14, 17, 18, 19]) rfl⟩
          ·refine a1c ze37 rfl rfl rfl hx49 ?_
           intro b17 wx48 hx50
           refine a0j (hx50.sh (Frz.refl _) [3, 4, 5, 6] (by decide) rfl) ?_
           refine a0l 15 rfl (by kernel_rfl) ?_
           obtain ⟨l17, hr11, hb5⟩ := bind_some hb5
           refine a1b (r := rp_Frac) ap31 rfl rfl rfl hx50 rfl rfl (i := 1) rfl ((show RowN rp_Frac Fx4 0 [] [] from ⟨rfl, (rfl : RowR rp_Frac _ [] [])⟩)) hs27 hr11 ?_
           intro as31 cs31 wx49 xss31 hx51 hs31
           refine a0j (hx51.sh (Frz.refl _) [3, 4, 5, 6] (by decide) rfl) ?_
           refine a0l 19 rfl (by kernel_rfl) ?_
           obtain ⟨l18, hr12, hb5⟩ := bind_some hb5
           refine a1b (r := rp_Frac) ap31 rfl rfl rfl hx51 rfl rfl (i := 1) rfl hs31 hs28 hr12 ?_
           intro as32 cs32 wx50 xss32 hx52 hs32
           refine a0j (hx52.sh (Frz.refl _) [3, 4, 5, 6] (by decide) rfl) ?_
           refine a0l 20 rfl (by kernel_rfl) ?_
           obtain ⟨Fx17, hF17, hx53, hsx5⟩ := a0o hx52 (i := 2) rfl hs30
           obtain ⟨Fx18, hF18, hx54, hsx6⟩ := a0o hx53 (i := 1) rfl (hs32.mono hF17)
           have hG5 := ((((hF1.trans hF2).trans hF3).trans hF4).trans hF17).trans hF18
           obtain ⟨v14, hv9, hb5⟩ := bind_some hb5
           refine a0g ent7 rfl rfl rfl rfl hx54 (a1j _ _ _ _ _ _ hv9 hx54.sat (hs1.mono hG5) (hsx5.mono hF18) ((hsx1.mono hF17).mono hF18) hsx6) ?_
           rintro _ Fx19 _ wx51 hF19 hx55 ⟨as33, ns33, cs33, as34, ns34, cs34, rfl, rfl, hs33, hs34⟩
           refine a0j (hx55.sh ((hF17.trans hF18).trans hF19) [1, 2, 3, 4] (by decide) rfl) ?_
           refine d_tk 21 rfl (by kernel_rfl) rfl rfl rfl rfl (hx55.sh ((hF17.trans hF18).trans hF19) [1, 2, 3, 4] (by decide) rfl) (fun _ _ _ _ _ => a0e rfl rfl rfl (a0c (qq rfl))) ?_
           refine d_tk 22 rfl (by kernel_rfl) rfl rfl rfl rfl (hx55.sh ((hF17.trans hF18).trans hF19) [1, 2, 3, 4] (by decide) rfl) (fun _ _ _ _ _ => a0k rfl rfl rfl rfl (a0c (qq rfl))) ?_
           refine d_tk 23 rfl (by kernel_rfl) rfl rfl rfl rfl (hx55.sh ((hF17.trans hF18).trans hF19) [1, 2, 3, 4] (by decide) rfl) (fun _ _ _ _ _ => a0k rfl rfl rfl rfl (a0c (qq rfl))) ?_
           refine a0l 25 rfl (by kernel_rfl) ?_
           refine a0r sz37 rfl hx55 rfl rfl rfl rfl (i := 0) rfl rfl rfl rfl ?_
           intro wx52 hx56
           refine a0j (hx56.sh ((hF17.trans hF18).trans hF19) [1, 2, 3, 4] (by decide) rfl) ?_
           refine d_tk 26 rfl (by kernel_rfl) rfl rfl rfl rfl (hx56.sh ((hF17.trans hF18).trans hF19) [1, 2, 3, 4] (by decide) rfl) (fun _ _ _ _ _ => a0b rfl rfl rfl (a0c (qq rfl))) ?_
           refine a1t (by kernel_rfl) ?_
           refine a0n (fun a ha => ?_)
           cases hb5
           exact ⟨_, b17, as33, ns33, cs33, as34, ns34, cs34, ((hF17.trans hF18).trans hF19), hx56.pick [0, 1, 2, 3, 4] (by decide) rfl, hs33, hs34, ha.cut (l := [1, 3, 5, 6, 8, 13, 14, 17, 18, 19]) rfl⟩
         ·refine a1c ze37 rfl rfl rfl hx48 ?_
          intro b17 wx47 hx49
          refine a0j (hx49.sh (Frz.refl _) [3, 4, 5, 6] (by decide) rfl) ?_
          refine a0l 9 rfl (by kernel_rfl) ?_
          obtain ⟨l16, hr10, hb5⟩ := bind_some hb5
          refine a1b (r := Rp.str) ap27 rfl rfl rfl hx49 rfl rfl (i := 2) rfl hs29 hs26 hr10 ?_
          intro as30 cs30 wx48 xss30 hx50 hs30
          refine a0j (hx50.sh (Frz.refl _) [3, 4, 5, 6] (by decide) rfl) ?_
          refine a0l 15 rfl (by kernel_rfl) ?_
          obtain ⟨l17, hr11, hb5⟩ := bind_some hb5
          refine a1b (r := rp_Frac) ap31 rfl rfl rfl hx50 rfl rfl (i := 1) rfl ((show RowN rp_Frac Fx4 0 [] [] from ⟨rfl, (rfl : RowR rp_Frac _ [] [])⟩)) hs27 hr11 ?_
          intro as31 cs31 wx49 xss31 hx51 hs31
          refine a0j (hx51.sh (Frz.refl _) [3, 4, 5, 6] (by decide) rfl) ?_
          refine a0l 19 rfl (by kernel_rfl) ?_
          obtain ⟨l18, hr12, hb5⟩ := bind_some hb5
          refine a1b (r := rp_Frac) ap31 rfl rfl rfl hx51 rfl rfl (i := 1) rfl hs31 hs28 hr12 ?_
          intro as32 cs32 wx50 xss32 hx52 hs32
          refine a0j (hx52.sh (Frz.refl _) [3, 4, 5, 6] (by decide) rfl) ?_
          refine a0l 20 rfl (by kernel_rfl) ?_
          obtain ⟨Fx17, hF17, hx53, hsx5⟩ := a0o hx52 (i := 2) rfl hs30
          obtain ⟨Fx18, hF18, hx54, hsx6⟩ := a0o hx53 (i := 1) rfl (hs32.mono hF17)
          have hG5 := ((((hF1.trans hF2).trans hF3).trans hF4).trans hF17).trans hF18
          obtain ⟨v14, hv9, hb5⟩ := bind_some hb5
          refine a0g ent7 rfl rfl rfl rfl hx54 (a1j _ _ _ _ _ _ hv9 hx54.sat (hs1.mono hG5) (hsx5.mono hF18) ((hsx1.mono hF17).mono hF18) hsx6) ?_
          rintro _ Fx19 _ wx51 hF19 hx55 ⟨as33, ns33, cs33, as34, ns34, cs34, rfl, rfl, hs33, hs34⟩
          refine a0j (hx55.sh ((hF17.trans hF18).trans hF19) [1, 2, 3, 4] (by decide) rfl) ?_
          refine d_tk 21 rfl (by kernel_rfl) rfl rfl rfl rfl (hx55.sh ((hF17.trans hF18).trans hF19) [1, 2, 3, 4] (by decide) rfl) (fun _ _ _ _ _ => a0e rfl rfl rfl (a0c (qq rfl))) ?_
          refine d_tk 22 rfl (by kernel_rfl) rfl rfl rfl rfl (hx55.sh ((hF17.trans hF18).trans hF19) [1, 2, 3, 4] (by decide) rfl) (fun _ _ _ _ _ => a0k rfl rfl rfl rfl (a0c (qq rfl))) ?_
          refine d_tk 23 rfl (by kernel_rfl) rfl rfl rfl rfl (hx55.sh ((hF17.trans hF18).trans hF19) [1, 2, 3, 4] (by decide) rfl) (fun _ _ _ _ _ => a0k rfl rfl rfl rfl (a0c (qq rfl))) ?_
          refine a0l 25 rfl (by kernel_rfl) ?_
          refine a0r sz37 rfl hx55 rfl rfl rfl rfl (i := 0) rfl rfl rfl rfl ?_
          intro wx52 hx56
          refine a0j (hx56.sh ((hF17.trans hF18).trans hF19) [1, 2, 3, 4] (by decide) rfl) ?_
          refine d_tk 26 rfl (by kernel_rfl) rfl rfl rfl rfl (hx56.sh ((hF17.trans hF18).trans hF19) [1, 2, 3, 4] (by decide) rfl) (fun _ _ _ _ _ => a0b rfl rfl rfl (a0c (qq rfl))) ?_
          refine a1t (by kernel_rfl) ?_
          refine a0n (fun a ha => ?_)
          cases hb5
          exact ⟨_, b17, as33, ns33, cs33, as34, ns34, cs34, ((hF17.trans hF18).trans hF19), hx56.pick [0, 1, 2, 3, 4] (by decide) rfl, hs33, hs34, ha.cut (l := [1, 3, 5, 6, 8, 13, 14, 17, 18, 19]) rfl⟩
        ·refine a1c ze37 rfl rfl rfl hx47 ?_
         intro b17 wx46 hx48
         refine a0j (hx48.sh (Frz.refl _) [3, 4, 5, 6] (by decide) rfl) ?_
         refine a0l 5 rfl (by kernel_rfl) ?_
         obtain ⟨l15, hr9, hb5⟩ := bind_some hb5
         refine a1b (r := Rp.str) ap27 rfl rfl rfl hx48 rfl rfl (i := 2) rfl ((show RowN Rp.str Fx4 0 [] [] from ⟨rfl, (rfl : RowR Rp.str _ [] [])⟩)) hs25 hr9 ?_
         intro as29 cs29 wx47 xss29 hx49 hs29
         refine a0j (hx49.sh (Frz.refl _) [3, 4, 5, 6] (by decide) rfl) ?_
         refine a0l 9 rfl (by kernel_rfl) ?_
         obtain ⟨l16, hr10, hb5⟩ := bind_some hb5
         refine a1b (r := Rp.str) ap27 rfl rfl rfl hx49 rfl rfl (i := 2) rfl hs29 hs26 hr10 ?_
         intro as30 cs30 wx48 xss30 hx50 hs30
         refine a0j (hx50.sh (Frz.refl _) [3, 4, 5, 6] (by decide) rfl) ?_
         refine a0l 15 rfl (by kernel_rfl) ?_
         obtain ⟨l17, hr11, hb5⟩ := bind_some hb5
         refine a1b (r := rp_Frac) ap31 rfl rfl rfl hx50 rfl rfl (i := 1) rfl ((show RowN rp_Frac Fx4 0 [] [] from ⟨rfl, (rfl : RowR rp_Frac _ [] [])⟩)) hs27 hr11 ?_
         intro as31 cs31 wx49 xss31 hx51 hs31
         refine a0j (hx51.sh (Frz.refl _) [3, 4, 5, 6] (by decide) rfl) ?_
         refine a0l 19 rfl (by kernel_rfl) ?_
         obtain ⟨l18, hr12, hb5⟩ := bind_some hb5
         refine a1b (r := rp_Frac) ap31 rfl rfl rfl hx51 rfl rfl (i := 1) rfl hs31 hs28 hr12 ?_
         intro as32 cs32 wx50 xss32 hx52 hs32
         refine a0j (hx52.sh (Frz.refl _) [3, 4, 5, 6] (by decide) rfl) ?_
         refine a0l 20 rfl (by kernel_rfl) ?_
         obtain ⟨Fx17, hF17, hx53, hsx5⟩ := a0o hx52 (i := 2) rfl hs30
         obtain ⟨Fx18, hF18, hx54, hsx6⟩ := a0o hx53 (i := 1) rfl (hs32.mono hF17)
         have hG5 := ((((hF1.trans hF2).trans hF3).trans hF4).trans hF17).trans hF18
         obtain ⟨v14, hv9, hb5⟩ := bind_some hb5
         refine a0g ent7 rfl rfl rfl rfl hx54 (a1j _ _ _ _ _ _ hv9 hx54.sat (hs1.mono hG5) (hsx5.mono hF18) ((hsx1.mono hF17).mono hF18) hsx6) ?_
         rintro _ Fx19 _ wx51 hF19 hx55 ⟨as33, ns33, cs33, as34, ns34, cs34, rfl, rfl, hs33, hs34⟩
         refine a0j (hx55.sh ((hF17.trans hF18).trans hF19) [1, 2, 3, 4] (by decide) rfl) ?_
         refine d_tk 21 rfl (by kernel_rfl) rfl rfl rfl rfl (hx55.sh ((hF17.trans hF18).trans hF19) [1, 2, 3, 4] (by decide) rfl) (fun _ _ _ _ _ => a0e rfl rfl rfl (a0c (qq rfl))) ?_
         refine d_tk 22 rfl (by kernel_rfl) rfl rfl rfl rfl (hx55.sh ((hF17.trans hF18).trans hF19) [1, 2, 3, 4] (by decide) rfl) (fun _ _ _ _ _ => a0k rfl rfl rfl rfl (a0c (qq rfl))) ?_
         refine d_tk 23 rfl (by kernel_rfl) rfl rfl rfl rfl (hx55.sh ((hF17.trans hF18).trans hF19) [1, 2, 3, 4] (by decide) rfl) (fun _ _ _ _ _ => a0k rfl rfl rfl rfl (a0c (qq rfl))) ?_
         refine a0l 25 rfl (by kernel_rfl) ?_
         refine a0r sz37 rfl hx55 rfl rfl rfl rfl (i := 0) rfl rfl rfl rfl ?_
         intro wx52 hx56
         refine a0j (hx56.sh ((hF17.trans hF18).trans hF19) [1, 2, 3, 4] (by decide) rfl) ?_
         refine d_tk 26 rfl (by kernel_rfl) rfl rfl rfl rfl (hx56.sh ((hF17.trans hF18).trans hF19) [1, 2, 3, 4] (by decide) rfl) (fun _ _ _ _ _ => a0b rfl rfl rfl (a0c (qq rfl))) ?_
         refine a1t (by kernel_rfl) ?_
         refine a0n (fun a ha => ?_)
         cases hb5
         exact ⟨_, b17, as33, ns33, cs33, as34, ns34, cs34, ((hF17.trans hF18).trans hF19), hx56.pick [0, 1, 2, 3, 4] (by decide) rfl, hs33, hs34, ha.cut (l := [1, 3, 5, 6, 8, 13, 14, 17, 18, 19]) rfl⟩
       ·refine a1c ze37 rfl rfl rfl hx46 ?_
        intro b16 wx45 hx47
        refine a0j (hx47.sh (Frz.refl _) [2, 3, 4, 5] (by decide) rfl) ?_
        refine a4j 5 11 rfl rfl (by kernel_rfl) ?_ ?_
        ·obtain ⟨l15, hr9, hb5⟩ := bind_some hb5
         refine a1b (r := Rp.str) ap27 rfl rfl rfl hx47 rfl rfl (i := 1) rfl ((show RowN Rp.str Fx4 0 [] [] from ⟨rfl, (rfl : RowR Rp.str _ [] [])⟩)) hs25 hr9 ?_
         intro as29 cs29 wx46 xss29 hx48 hs29
         refine a0j (hx48.sh (Frz.refl _) [2, 3, 4, 5] (by decide) rfl) ?_
         refine a4j 9 11 rfl rfl (by kernel_rfl) ?_ ?_
         ·obtain ⟨l16, hr10, hb5⟩ := bind_some hb5
          refine a1b (r := Rp.str) ap27 rfl rfl rfl hx48 rfl rfl (i := 1) rfl hs29 hs26 hr10 ?_
          intro as30 cs30 wx47 xss30 hx49 hs30
          refine a0j (hx49.sh (Frz.refl _) [2, 3, 4, 5] (by decide) rfl) ?_
          refine a0l 11 rfl (by kernel_rfl) ?_
          refine a1a (e := 37) (cs := []) (q := 4) rfl rfl hx49 rfl (fun _ => by kernel_rfl) rfl rfl ?_
          intro b17 wx48 hx50
          refine a0j (hx50.sh (Frz.refl _) [3, 4, 5, 6] (by decide) rfl) ?_
          refine a0l 15 rfl (by kernel_rfl) ?_
          obtain ⟨l17, hr11, hb5⟩ := bind_some hb5
          refine a1b (r := rp_Frac) ap31 rfl rfl rfl hx50 rfl rfl (i := 0) rfl ((show RowN rp_Frac Fx4 0 [] [] from ⟨rfl, (rfl : RowR rp_Frac _ [] [])⟩)) hs27 hr11 ?_
          intro as31 cs31 wx49 xss31 hx51 hs31
          refine a0j (hx51.sh (Frz.refl _) [3, 4, 5, 6] (by decide) rfl) ?_
          refine a0l 19 rfl (by kernel_rfl) ?_
          obtain ⟨l18, hr12, hb5⟩ := bind_some hb5
          refine a1b (r := rp_Frac) ap31 rfl rfl rfl hx51 rfl rfl (i := 0) rfl hs31 hs28 hr12 ?_
          intro as32 cs32 wx50 xss32 hx52 hs32
          refine a0j (hx52.sh (Frz.refl _) [3, 4, 5, 6] (by decide) rfl) ?_
          refine a0l 20 rfl (by kernel_rfl) ?_
          obtain ⟨Fx17, hF17, hx53, hsx5⟩ := a0o hx52 (i := 2) rfl hs30
          obtain ⟨Fx18, hF18, hx54, hsx6⟩ := a0o hx53 (i := 0) rfl (hs32.mono hF17)
          have hG5 := ((((hF1.trans hF2).trans hF3).trans hF4).trans hF17).trans hF18
          obtain ⟨v14, hv9, hb5⟩ := bind_some hb5
          refine a0g ent7 rfl rfl rfl rfl hx54 (a1j _ _ _ _ _ _ hv9 hx54.sat (hs1.mono hG5) (hsx5.mono hF18) ((hsx1.mono hF17).mono hF18) hsx6) ?_
          rintro _ Fx19 _ wx51 hF19 hx55 ⟨as33, ns33, cs33, as34, ns34, cs34, rfl, rfl, hs33, hs34⟩
          refine a0j (hx55.sh ((hF17.trans hF18).trans hF19) [1, 2, 3, 4] (by decide) rfl) ?_
          refine d_tk 21 rfl (by kernel_rfl) rfl rfl rfl rfl (hx55.sh ((hF17.trans hF18).trans hF19) [1, 2, 3, 4] (by decide) rfl) (fun _ _ _ _ _ => a0e rfl rfl rfl (a0c (qq rfl))) ?_
          refine d_tk 22 rfl (by kernel_rfl) rfl rfl rfl rfl (hx55.sh ((hF17.trans hF18).trans hF19) [1, 2, 3, 4] (by decide) rfl) (fun _ _ _ _ _ => a0k rfl rfl rfl rfl (a0c (qq rfl))) ?_
          refine d_tk 23 rfl (by kernel_rfl) rfl rfl rfl rfl (hx55.sh ((hF17.trans hF18).trans hF19) [1, 2, 3, 4] (by decide) rfl) (fun _ _ _ _ _ => a0k rfl rfl rfl rfl (a0c (qq rfl))) ?_
          refine a0l 25 rfl (by kernel_rfl) ?_
          refine a0r sz37 rfl hx55 rfl rfl rfl rfl (i := 0) rfl rfl rfl rfl ?_
          intro wx52 hx56
          refine a0j (hx56.sh ((hF17.trans hF18).trans hF19) [1, 2, 3, 4] (by decide) rfl) ?_
          refine d_tk 26 rfl (by kernel_rfl) rfl rfl rfl rfl (hx56.sh ((hF17.trans hF18).trans hF19) [1, 2, 3, 4] (by decide) rfl) (fun _ _ _ _ _ => a0b rfl rfl rfl (a0c (qq rfl))) ?_
          refine a1t (by kernel_rfl) ?_
          refine a0n (fun a ha => ?_)
          cases hb5
          exact ⟨_, b16, as33, ns33, cs33, as34, ns34, cs34, ((hF17.trans hF18).trans hF19), hx56.pick [0, 1, 2, 3, 4] (by decide) rfl, hs33, hs34, ha.cut (l := [1, 3, 5, 6, 8, 13, 14, 17, 18, 19]) rfl⟩
         ·refine a1a (e := 37) (cs := []) (q := 4) rfl rfl hx48 rfl (fun _ => by kernel_rfl) rfl rfl ?_
          intro b17 wx47 hx49
          refine a0j (hx49.sh (Frz.refl _) [3, 4, 5, 6] (by decide) rfl) ?_
          refine a0l 9 rfl (by kernel_rfl) ?_
          obtain ⟨l16, hr10, hb5⟩ := bind_some hb5
          refine a1b (r := Rp.str) ap27 rfl rfl rfl hx49 rfl rfl (i := 2) rfl hs29 hs26 hr10 ?_
          intro as30 cs30 wx48 xss30 hx50 hs30
          refine a0j (hx50.sh (Frz.refl _) [3, 4, 5, 6] (by decide) rfl) ?_
          refine a0l 15 rfl (by kernel_rfl) ?_
          obtain ⟨l17, hr11, hb5⟩ := bind_some hb5
          refine a1b (r := rp_Frac) ap31 rfl rfl rfl hx50 rfl rfl (i := 0) rfl ((show RowN rp_Frac Fx4 0 [] [] from ⟨rfl, (rfl : RowR rp_Frac _ [] [])⟩)) hs27 hr11 ?_
          intro as31 cs31 wx49 xss31 hx51 hs31
          refine a0j (hx51.sh (Frz.refl _) [3, 4, 5, 6] (by decide) rfl) ?_
          refine a0l 19 rfl (by kernel_rfl) ?_
          obtain ⟨l18, hr12, hb5⟩ := bind_some hb5
          refine a1b (r := rp_Frac) ap31 rfl rfl rfl hx51 rfl rfl (i := 0) rfl hs31 hs28 hr12 ?_
          intro as32 cs32 wx50 xss32 hx52 hs32
          refine a0j (hx52.sh (Frz.refl _) [3, 4, 5, 6] (by decide) rfl) ?_
          refine a0l 20 rfl (by kernel_rfl) ?_
          obtain ⟨Fx17, hF17, hx53, hsx5⟩ := a0o hx52 (i := 2) rfl hs30
          obtain ⟨Fx18, hF18, hx54, hsx6⟩ := a0o hx53 (i := 0) rfl (hs32.mono hF17)
          have hG5 := ((((hF1.trans hF2).trans hF3).trans hF4).trans hF17).trans hF18
          obtain ⟨v14, hv9, hb5⟩ := bind_some hb5
          refine a0g ent7 rfl rfl rfl rfl hx54 (a1j _ _ _ _ _ _ hv9 hx54.sat (hs1.mono hG5) (hsx5.mono hF18) ((hsx1.mono hF17).mono hF18) hsx6) ?_
          rintro _ Fx19 _ wx51 hF19 hx55 ⟨as33, ns33, cs33, as34, ns34, cs34, rfl, rfl, hs33, hs34⟩
          refine a0j (hx55.sh ((hF17.trans hF18).trans hF19) [1, 2, 3, 4] (by decide) rfl) ?_
          refine d_tk 21 rfl (by kernel_rfl) rfl rfl rfl rfl (hx55.sh ((hF17.trans hF18).trans hF19) [1, 2, 3, 4] (by decide) rfl) (fun _ _ _ _ _ => a0e rfl rfl rfl (a0c (qq rfl))) ?_
          refine d_tk 22 rfl (by kernel_rfl) rfl rfl rfl rfl (hx55.sh ((hF17.trans hF18).trans hF19) [1, 2, 3, 4] (by decide) rfl) (fun _ _ _ _ _ => a0k rfl rfl rfl rfl (a0c (qq rfl))) ?_
          refine d_tk 23 rfl (by kernel_rfl) rfl rfl rfl rfl (hx55.sh ((hF17.trans hF18).trans hF19) [1, 2, 3, 4] (by decide) rfl) (fun _ _ _ _ _ => a0k rfl rfl rfl rfl (a0c (qq rfl))) ?_
          refine a0l 25 rfl (by kernel_rfl) ?_
          refine a0r sz37 rfl hx55 rfl rfl rfl rfl (i := 0) rfl rfl rfl rfl ?_
          intro wx52 hx56
          refine a0j (hx56.sh ((hF17.trans hF18).trans hF19) [1, 2, 3, 4] (by decide) rfl) ?_
          refine d_tk 26 rfl (by kernel_rfl) rfl rfl rfl rfl (hx56.sh ((hF17.trans hF18).trans hF19) [1, 2, 3, 4] (by decide) rfl) (fun _ _ _ _ _ => a0b rfl rfl rfl (a0c (qq rfl))) ?_
          refine a1t (by kernel_rfl) ?_
          refine a0n (fun a ha => ?_)
          cases hb5
          exact ⟨_, b16, as33, ns33, cs33, as34, ns34, cs34, ((hF17.trans hF18).trans hF19), hx56.pick [0, 1, 2, 3, 4] (by decide) rfl, hs33, hs34, ha.cut (l := [1, 3, 5, 6, 8, 13, 14, 17, 18, 19]) rfl⟩
        ·refine a1a (e := 37) (cs := []) (q := 4) rfl rfl hx47 rfl (fun _ => by kernel_rfl) rfl rfl ?_
         intro b17 wx46 hx48
         refine a0j (hx48.sh (Frz.refl _) [3, 4, 5, 6] (by decide) rfl) ?_
         refine a0l 5 rfl (by kernel_rfl) ?_
         obtain ⟨l15, hr9, hb5⟩ := bind_some hb5
         refine a1b (r := Rp.str) ap27 rfl rfl rfl hx48 rfl rfl (i := 2) rfl ((show RowN Rp.str Fx4 0 [] [] from ⟨rfl, (rfl : RowR Rp.str _ [] [])⟩)) hs25 hr9 ?_
         intro as29 cs29 wx47 xss29 hx49 hs29
         refine a0j (hx49.sh (Frz.refl _) [3, 4, 5, 6] (by decide) rfl) ?_
         refine a0l 9 rfl (by kernel_rfl) ?_
         obtain ⟨l16, hr10, hb5⟩ := bind_some hb5
         refine a1b (r := Rp.str) ap27 rfl rfl rfl hx49 rfl rfl (i := 2) rfl hs29 hs26 hr10 ?_
         intro as30 cs30 wx48 xss30 hx50 hs30
         refine a0j (hx50.sh (Frz.refl _) [3, 4, 5, 6] (by decide) rfl) ?_
         refine a0l 15 rfl (by kernel_rfl) ?_
         obtain ⟨l17, hr11, hb5⟩ := bind_some hb5
         refine a1b (r := rp_Frac) ap31 rfl rfl rfl hx50 rfl rfl (i := 0) rfl ((show RowN rp_Frac Fx4 0 [] [] from ⟨rfl, (rfl : RowR rp_Frac _ [] [])⟩)) hs27 hr11 ?_
         intro as31 cs31 wx49 xss31 hx51 hs31
         refine a0j (hx51.sh (Frz.refl _) [3, 4, 5, 6] (by decide) rfl) ?_
         refine a0l 19 rfl (by kernel_rfl) ?_
         obtain ⟨l18, hr12, hb5⟩ := bind_some hb5
         refine a1b (r := rp_Frac) ap31 rfl rfl rfl hx51 rfl rfl (i := 0) rfl hs31 hs28 hr12 ?_
         intro as32 cs32 wx50 xss32 hx52 hs32
         refine a0j (hx52.sh (Frz.refl _) [3, 4, 5, 6] (by decide) rfl) ?_
         refine a0l 20 rfl (by kernel_rfl) ?_
         obtain ⟨Fx17, hF17, hx53, hsx5⟩ := a0o hx52 (i := 2) rfl hs30
         obtain ⟨Fx18, hF18, hx54, hsx6⟩ := a0o hx53 (i := 0) rfl (hs32.mono hF17)
         have hG5 := ((((hF1.trans hF2).trans hF3).trans hF4).trans hF17).trans hF18
         obtain ⟨v14, hv9, hb5⟩ := bind_some hb5
         refine a0g ent7 rfl rfl rfl rfl hx54 (a1j _ _ _ _ _ _ hv9 hx54.sat (hs1.mono hG5) (hsx5.mono hF18) ((hsx1.mono hF17).mono hF18) hsx6) ?_
         rintro _ Fx19 _ wx51 hF19 hx55 ⟨as33, ns33, cs33, as34, ns34, cs34, rfl, rfl, hs33, hs34⟩
         refine a0j (hx55.sh ((hF17.trans hF18).trans hF19) [1, 2, 3, 4] (by decide) rfl) ?_
         refine d_tk 21 rfl (by kernel_rfl) rfl rfl rfl rfl (hx55.sh ((hF17.trans hF18).trans hF19) [1, 2, 3, 4] (by decide) rfl) (fun _ _ _ _ _ => a0e rfl rfl rfl (a0c (qq rfl))) ?_
         refine d_tk 22 rfl (by kernel_rfl) rfl rfl rfl rfl (hx55.sh ((hF17.trans hF18).trans hF19) [1, 2, 3, 4] (by decide) rfl) (fun _ _ _ _ _ => a0k rfl rfl rfl rfl (a0c (qq rfl))) ?_
         refine d_tk 23 rfl (by kernel_rfl) rfl rfl rfl rfl (hx55.sh ((hF17.trans hF18).trans hF19) [1, 2, 3, 4] (by decide) rfl) (fun _ _ _ _ _ => a0k rfl rfl rfl rfl (a0c (qq rfl))) ?_
         refine a0l 25 rfl (by kernel_rfl) ?_
         refine a0r sz37 rfl hx55 rfl rfl rfl rfl (i := 0) rfl rfl rfl rfl ?_
         intro wx52 hx56
         refine a0j (hx56.sh ((hF17.trans hF18).trans hF19) [1, 2, 3, 4] (by decide) rfl) ?_
         refine d_tk 26 rfl (by kernel_rfl) rfl rfl rfl rfl (hx56.sh ((hF17.trans hF18).trans hF19) [1, 2, 3, 4] (by decide) rfl) (fun _ _ _ _ _ => a0b rfl rfl rfl (a0c (qq rfl))) ?_
         refine a1t (by kernel_rfl) ?_
         refine a0n (fun a ha => ?_)
         cases hb5
         exact ⟨_, b16, as33, ns33, cs33, as34, ns34, cs34, ((hF17.trans hF18).trans hF19), hx56.pick [0, 1, 2, 3, 4] (by decide) rfl, hs33, hs34, ha.cut (l := [1, 3, 5, 6, 8, 13, 14, 17, 18, 19]) rfl⟩
      ·refine a1a (e := 37) (cs := []) (q := 4) rfl rfl hx45 rfl (fun _ => by kernel_rfl) rfl rfl ?_
       intro b15 wx44 hx46
       refine a0j (hx46.sh (Frz.refl _) [1, 2, 3, 4] (by decide) rfl) ?_
       refine a4j 1 24 rfl rfl (by kernel_rfl) ?_ ?_
       ·refine a1a (e := 9) (cs := []) (q := 1) rfl rfl hx46 rfl (fun _ => by kernel_rfl) rfl rfl ?_
        intro b16 wx45 hx47
        refine a0j (hx47.sh (Frz.refl _) [2, 3, 4, 5] (by decide) rfl) ?_
        refine a4j 5 24 rfl rfl (by kernel_rfl) ?_ ?_
        ·obtain ⟨l15, hr9, hb5⟩ := bind_some hb5
         refine a1b (r := Rp.str) ap27 rfl rfl rfl hx47 rfl rfl (i := 0) rfl ((show RowN Rp.str Fx4 0 [] [] from ⟨rfl, (rfl : RowR Rp.str _ [] [])⟩)) hs25 hr9 ?_
         intro as29 cs29 wx46 xss29 hx48 hs29
         refine a0j (hx48.sh (Frz.refl _) [2, 3, 4, 5] (by decide) rfl) ?_
         refine a4j 9 24 rfl rfl (by kernel_rfl) ?_ ?_
         ·obtain ⟨l16, hr10, hb5⟩ := bind_some hb5
          refine a1b (r := Rp.str) ap27 rfl rfl rfl hx48 rfl rfl (i := 0) rfl hs29 hs26 hr10 ?_
          intro as30 cs30 wx47 xss30 hx49 hs30
          refine a0j (hx49.sh (Frz.refl _) [2, 3, 4, 5] (by decide) rfl) ?_
          refine a4j 15 24 rfl rfl (by kernel_rfl) ?_ ?_
          ·obtain ⟨l17, hr11, hb5⟩ := bind_some hb5
           refine a1b (r := rp_Frac) ap31 rfl rfl rfl hx49 rfl rfl (i := 1) rfl ((show RowN rp_Frac Fx4 0 [] [] from ⟨rfl, (rfl : RowR rp_Frac _ [] [])⟩)) hs27 hr11 ?_
           intro as31 cs31 wx48 xss31 hx50 hs31
           refine a0j (hx50.sh (Frz.refl _) [2, 3, 4, 5] (by decide) rfl) ?_
           refine a4j 19 24 rfl rfl (by kernel_rfl) ?_ ?_
           ·obtain ⟨l18, hr12, hb5⟩ := bind_some hb5
            refine a1b (r := rp_Frac) ap31 rfl rfl rfl hx50 rfl rfl (i := 1) rfl hs31 hs28 hr12 ?_
            intro as32 cs32 wx49 xss32 hx51 hs32
            refine a0j (hx51.sh (Frz.refl _) [2, 3, 4, 5] (by decide) rfl) ?_
            refine a4j 20 24 rfl rfl (by kernel_rfl) ?_ ?_
            ·obtain ⟨Fx17, hF17, hx52, hsx5⟩ := a0o hx51 (i := 0) rfl hs30
             obtain ⟨Fx18, hF18, hx53, hsx6⟩ := a0o hx52 (i := 0) rfl (hs32.mono hF17)
             have hG5 := ((((hF1.trans hF2).trans hF3).trans hF4).trans hF17).trans hF18
             obtain ⟨v14, hv9, hb5⟩ := bind_some hb5
             refine a0g ent7 rfl rfl rfl rfl hx53 (a1j _ _ _ _ _ _ hv9 hx53.sat (hs1.mono hG5) (hsx5.mono hF18) ((hsx1.mono hF17).mono hF18) hsx6) ?_
             rintro _ Fx19 _ wx50 hF19 hx54 ⟨as33, ns33, cs33, as34, ns34, cs34, rfl, rfl, hs33, hs34⟩
             refine a0j (hx54.sh ((hF17.trans hF18).trans hF19) [0, 1, 2, 3] (by decide) rfl) ?_
             refine d_tk 21 rfl (by kernel_rfl) rfl rfl rfl rfl (hx54.sh ((hF17.trans hF18).trans hF19) [0, 1, 2, 3] (by decide) rfl) (fun _ _ _ _ _ => a0e rfl rfl rfl (a0c (qq rfl))) ?_
             refine d_tk 22 rfl (by kernel_rfl) rfl rfl rfl rfl (hx54.sh ((hF17.trans hF18).trans hF19) [0, 1, 2, 3] (by decide) rfl) (fun _ _ _ _ _ => a0k rfl rfl rfl rfl (a0c (qq rfl))) ?_
             refine d_tk 23 rfl (by kernel_rfl) rfl rfl rfl rfl (hx54.sh ((hF17.trans hF18).trans hF19) [0, 1, 2, 3] (by decide) rfl) (fun _ _ _ _ _ => a0k rfl rfl rfl rfl (a0c (qq rfl))) ?_
             refine a0l 24 rfl (by kernel_rfl) ?_
             refine a1c ze37 rfl rfl rfl hx54 ?_
             intro b17 wx51 hx55
             refine a0j (hx55.sh ((hF17.trans hF18).trans hF19) [1, 2, 3, 4] (by decide) rfl) ?_
             refine a0l 25 rfl (by kernel_rfl) ?_
             refine a0r sz37 rfl hx55 rfl rfl rfl rfl (i := 0) rfl rfl rfl rfl ?_
             intro wx52 hx56
             refine a0j (hx56.sh ((hF17.trans hF18).trans hF19) [1, 2, 3, 4] (by decide) rfl) ?_
             refine d_tk 26 rfl (by kernel_rfl) rfl rfl rfl rfl (hx56.sh ((hF17.trans hF18).trans hF19) [1, 2, 3, 4] (by decide) rfl) (fun _ _ _ _ _ => a0b rfl rfl rfl (a0c (qq rfl))) ?_
             refine a1t (by kernel_rfl) ?_
             refine a0n (fun a ha => ?_)
             cases hb5
             exact ⟨_, b17, as33, ns33, cs33, as34, ns34, cs34, ((hF17.trans hF18).trans hF19), hx56.pick [0, 1, 2, 3, 4] (by decide) rfl, hs33, hs34, ha.cut (l := [1, 3, 5, 6, 8, 13, 14, 17, 18, 19]) rfl⟩
            ·refine a1c ze37 rfl rfl rfl hx51 ?_
             intro b17 wx50 hx52
             refine a0j (hx52.sh (Frz.refl _) [3, 4, 5, 6] (by decide) rfl) ?_
             refine a0l 20 rfl (by kernel_rfl) ?_
             obtain ⟨Fx17, hF17, hx53, hsx5⟩ := a0o hx52 (i := 1) rfl hs30
             obtain ⟨Fx18, hF18, hx54, hsx6⟩ := a0o hx53 (i := 1) rfl (hs32.mono hF17)
             have hG5 := ((((hF1.trans hF2).trans hF3).trans hF4).trans hF17).trans hF18
             obtain ⟨v14, hv9, hb5⟩ := bind_some hb5
             refine a0g ent7 rfl rfl rfl rfl hx54 (a1j _ _ _ _ _ _ hv9 hx54.sat (hs1.mono hG5) (hsx5.mono hF18) ((hsx1.mono hF17).mono hF18) hsx6) ?_
             rintro _ Fx19 _ wx51 hF19 hx55 ⟨as33, ns33, cs33, as34, ns34, cs34, rfl, rfl, hs33, hs34⟩
             refine a0j (hx55.sh ((hF17.trans hF18).trans hF19) [1, 2, 3, 4] (by decide) rfl) ?_
             refine d_tk 21 rfl (by kernel_rfl) rfl rfl rfl rfl (hx55.sh ((hF17.trans hF18).trans hF19) [1, 2, 3, 4] (by decide) rfl) (fun _ _ _ _ _ => a0e rfl rfl rfl (a0c (qq rfl))) ?_
             refine d_tk 22 rfl (by kernel_rfl) rfl rfl rfl rfl (hx55.sh ((hF17.trans hF18).trans hF19) [1, 2, 3, 4] (by decide) rfl) (fun _ _ _ _ _ => a0k rfl rfl rfl rfl (a0c (qq rfl))) ?_
             refine d_tk 23 rfl (by kernel_rfl) rfl rfl rfl rfl (hx55.sh ((hF17.trans hF18).trans hF19) [1, 2, 3, 4] (by decide) rfl) (fun _ _ _ _ _ => a0k rfl rfl rfl rfl (a0c (qq rfl))) ?_
             refine a0l 25 rfl (by kernel_rfl) ?_
             refine a0r sz37 rfl hx55 rfl rfl rfl rfl (i := 0) rfl rfl rfl rfl ?_
             intro wx52 hx56
             refine a0j (hx56.sh ((hF17.trans hF18).trans hF19) [1, 2, 3, 4] (by decide) rfl) ?_
             refine d_tk 26 rfl (by kernel_rfl) rfl rfl rfl rfl (hx56.sh ((hF17.trans hF18).trans hF19) [1, 2, 3, 4] (by decide) rfl) (fun _ _ _ _ _ => a0b rfl rfl rfl (a0c (qq rfl))) ?_
             refine a1t (by kernel_rfl) ?_
             refine a0n (fun a ha => ?_)
             cases hb5
             exact ⟨_, b17, as33, ns33, cs33, as34, ns34, cs34, ((hF17.trans hF18).trans hF19), hx56.pick [0, 1, 2, 3, 4] (by decide) rfl, hs33, hs34, ha.cut (l := [1, 3, 5, 6, 8, 13, 14, 17, 18, 19]) rfl⟩
           ·refine a1c ze37 rfl rfl rfl hx50 ?_
            intro b17 wx49 hx51
            refine a0j (hx51.sh (Frz.refl _) [3, 4, 5, 6] (by decide) rfl) ?_
            refine a0l 19 rfl (by kernel_rfl) ?_
            obtain ⟨l18, hr12, hb5⟩ := bind_some hb5
            refine a1b (r := rp_Frac) ap31 rfl rfl rfl hx51 rfl rfl (i := 2) rfl hs31 hs28 hr12 ?_
            intro as32 cs32 wx50 xss32 hx52 hs32
            refine a0j (hx52.sh (Frz.refl _) [3, 4, 5, 6] (by decide) rfl) ?_
            refine a0l 20 rfl (by kernel_rfl) ?_
            obtain ⟨Fx17, hF17, hx53, hsx5⟩ := a0o hx52 (i := 1) rfl hs30
            obtain ⟨Fx18, hF18, hx54, hsx6⟩ := a0o hx53 (i := 1) rfl (hs32.mono hF17)
            have hG5 := ((((hF1.trans hF2).trans hF3).trans hF4).trans hF17).trans hF18
            obtain ⟨v14, hv9, hb5⟩ := bind_some hb5
            refine a0g ent7 rfl rfl rfl rfl hx54 (a1j _ _ _ _ _ _ hv9 hx54.sat (hs1.mono hG5) (hsx5.mono hF18) ((hsx1.mono hF17).mono hF18) hsx6) ?_
            rintro _ Fx19 _ wx51 hF19 hx55 ⟨as33, ns33, cs33, as34, ns34, cs34, rfl, rfl, hs33, hs34⟩
            refine a0j (hx55.sh ((hF17.trans hF18).trans hF19) [1, 2, 3, 4] (by decide) rfl) ?_
            refine d_tk 21 rfl (by kernel_rfl) rfl rfl rfl rfl (hx55.sh ((hF17.trans hF18).trans hF19) [1, 2, 3, 4] (by decide) rfl) (fun _ _ _ _ _ => a0e rfl rfl rfl (a0c (qq rfl))) ?_
            refine d_tk 22 rfl (by kernel_rfl) rfl rfl rfl rfl (hx55.sh ((hF17.trans hF18).trans hF19) [1, 2, 3, 4] (by decide) rfl) (fun _ _ _ _ _ => a0k rfl rfl rfl rfl (a0c (qq rfl))) ?_
            refine d_tk 23 rfl (by kernel_rfl) rfl rfl rfl rfl (hx55.sh ((hF17.trans hF18).trans hF19) [1, 2, 3, 4] (by decide) rfl) (fun _ _ _ _ _ => a0k rfl rfl rfl rfl (a0c (qq rfl))) ?_
            refine a0l 25 rfl (by kernel_rfl) ?_
            refine a0r sz37 rfl hx55 rfl rfl rfl rfl (i := 0) rfl rfl rfl rfl ?_
            intro wx52 hx56
            refine a0j (hx56.sh ((hF17.trans hF18).trans hF19) [1, 2, 3, 4] (by decide) rfl) ?_
            refine d_tk 26 rfl (by kernel_rfl) rfl rfl rfl rfl (hx56.sh ((hF17.trans hF18).trans hF19) [1, 2, 3, 4] (by decide) rfl) (fun _ _ _ _ _ => a0b rfl rfl rfl (a0c (qq rfl))) ?_
            refine a1t (by kernel_rfl) ?_
            refine a0n (fun a ha => ?_)
            cases hb5
            exact ⟨_, b17, as33, ns33, cs33, as34, ns34, cs34, ((hF17.trans hF18).trans hF19), hx56.pick [0, 1, 2, 3, 4] (by decide) rfl, hs33, hs34, ha.cut (l := [1, 3, 5, 6, 8, 13, 14, 17, 18, 19]) rfl⟩
          ·refine a1c ze37 rfl rfl rfl hx49 ?_
           intro b17 wx48 hx50
           refine a0j (hx50.sh (Frz.refl _) [3, 4, 5, 6] (by decide) rfl) ?_
           refine a0l 15 rfl (by kernel_rfl) ?_
           obtain ⟨l17, hr11, hb5⟩ := bind_some hb5
           refine a1b (r := rp_Frac) ap31 rfl rfl rfl hx50 rfl rfl (i := 2) rfl ((show RowN rp_Frac Fx4 0 [] [] from ⟨rfl, (rfl : RowR rp_Frac _ [] [])⟩)) hs27 hr11 ?_
           intro as31 cs31 wx49 xss31 hx51 hs31
           refine a0j (hx51.sh (Frz.refl _) [3, 4, 5, 6] (by decide) rfl) ?_
           refine a0l 19 rfl (by kernel_rfl) ?_
           obtain ⟨l18, hr12, hb5⟩ := bind_some hb5
           refine a1b (r := rp_Frac) ap31 rfl rfl rfl hx51 rfl rfl (i := 2) rfl hs31 hs28 hr12 ?_
           intro as32 cs32 wx50 xss32 hx52 hs32
           refine a0j (hx52.sh (Frz.refl _) [3, 4, 5, 6] (by decide) rfl) ?_
           refine a0l 20 rfl (by kernel_rfl) ?_
           obtain ⟨Fx17, hF17, hx53, hsx5⟩ := a0o hx52 (i := 1) rfl hs30
           obtain ⟨Fx18, hF18, hx54, hsx6⟩ := a0o hx53 (i := 1) rfl (hs32.mono hF17)
           have hG5 := ((((hF1.trans hF2).trans hF3).trans hF4).trans hF17).trans hF18
           obtain ⟨v14, hv9, hb5⟩ := bind_some hb5
           refine a0g ent7 rfl rfl rfl rfl hx54 (a1j _ _ _ _ _ _ hv9 hx54.sat (hs1.mono hG5) (hsx5.mono hF18) ((hsx1.mono hF17).mono hF18) hsx6) ?_
           rintro _ Fx19 _ wx51 hF19 hx55 ⟨as33, ns33, cs33, as34, ns34, cs34, rfl, rfl, hs33, hs34⟩
           refine a0j (hx55.sh ((hF17.trans hF18).trans hF19) [1, 2, 3, 4] (by decide) rfl) ?_
           refine d_tk 21 rfl (by kernel_rfl) rfl rfl rfl rfl (hx55.sh ((hF17.trans hF18).trans hF19) [1, 2, 3, 4] (by decide) rfl) (fun _ _ _ _ _ => a0e rfl rfl rfl (a0c (qq rfl))) ?_
           refine d_tk 22 rfl (by kernel_rfl) rfl rfl rfl rfl (hx55.sh ((hF17.trans hF18).trans hF19) [1, 2, 3, 4] (by decide) rfl) (fun _ _ _ _ _ => a0k rfl rfl rfl rfl (a0c (qq rfl))) ?_
           refine d_tk 23 rfl (by kernel_rfl) rfl rfl rfl rfl (hx55.sh ((hF17.trans hF18).trans hF19) [1, 2, 3, 4] (by decide) rfl) (fun _ _ _ _ _ => a0k rfl rfl rfl rfl (a0c (qq rfl))) ?_
           refine a0l 25 rfl (by kernel_rfl) ?_
           refine a0r sz37 rfl hx55 rfl rfl rfl rfl (i := 0) rfl rfl rfl rfl ?_
           intro wx52 hx56
           refine a0j (hx56.sh ((hF17.trans hF18).trans hF19) [1, 2, 3, 4] (by decide) rfl) ?_
           refine d_tk 26 rfl (by kernel_rfl) rfl rfl rfl rfl (hx56.sh ((hF17.trans hF18).trans hF19) [1, 2, 3, 4] (by decide) rfl) (fun _ _ _ _ _ => a0b rfl rfl rfl (a0c (qq rfl))) ?_
           refine a1t (by kernel_rfl) ?_
           refine a0n (fun a ha => ?_)
           cases hb5
           exact ⟨_, b17, as33, ns33, cs33, as34, ns34, cs34, ((hF17.trans hF18).trans hF19), hx56.pick [0, 1, 2, 3, 4] (by decide) rfl, hs33, hs34, ha.cut (l := [1, 3, 5, 6, 8, 13, 14, 17, 18, 19]) rfl⟩
         ·refine a1c ze37 rfl rfl rfl hx48 ?_
          intro b17 wx47 hx49
          refine a0j (hx49.sh (Frz.refl _) [3, 4, 5, 6] (by decide) rfl) ?_
          refine a0l 9 rfl (by kernel_rfl) ?_
          obtain ⟨l16, hr10, hb5⟩ := bind_some hb5
          refine a1b (r := Rp.str) ap27 rfl rfl rfl hx49 rfl rfl (i := 1) rfl hs29 hs26 hr10 ?_
          intro as30 cs30 wx48 xss30 hx50 hs30
          refine a0j (hx50.sh (Frz.refl _) [3, 4, 5, 6] (by decide) rfl) ?_
          refine a0l 15 rfl (by kernel_rfl) ?_
          obtain ⟨l17, hr11, hb5⟩ := bind_some hb5
          refine a1b (r := rp_Frac) ap31 rfl rfl rfl hx50 rfl rfl (i := 2) rfl ((show RowN rp_Frac Fx4 0 [] [] from ⟨rfl, (rfl : RowR rp_Frac _ [] [])⟩)) hs27 hr11 ?_
          intro as31 cs31 wx49 xss31 hx51 hs31
          refine a0j (hx51.sh (Frz.refl _) [3, 4, 5, 6] (by decide) rfl) ?_
          refine a0l 19 rfl (by kernel_rfl) ?_
          obtain ⟨l18, hr12, hb5⟩ := bind_some hb5
          refine a1b (r := rp_Frac) ap31 rfl rfl rfl hx51 rfl rfl (i := 2) rfl hs31 hs28 hr12 ?_
          intro as32 cs32 wx50 xss32 hx52 hs32
          refine a0j (hx52.sh (Frz.refl _) [3, 4, 5, 6] (by decide) rfl) ?_
          refine a0l 20 rfl (by kernel_rfl) ?_
          obtain ⟨Fx17, hF17, hx53, hsx5⟩ := a0o hx52 (i := 1) rfl hs30
          obtain ⟨Fx18, hF18, hx54, hsx6⟩ := a0o hx53 (i := 1) rfl (hs32.mono hF17)
          have hG5 := ((((hF1.trans hF2).trans hF3).trans hF4).trans hF17).trans hF18
          obtain ⟨v14, hv9, hb5⟩ := bind_some hb5
          refine a0g ent7 rfl rfl rfl rfl hx54 (a1j _ _ _ _ _ _ hv9 hx54.sat (hs1.mono hG5) (hsx5.mono hF18) ((hsx1.mono hF17).mono hF18) hsx6) ?_
          rintro _ Fx19 _ wx51 hF19 hx55 ⟨as33, ns33, cs33, as34, ns34, cs34, rfl, rfl, hs33, hs34⟩
          refine a0j (hx55.sh ((hF17.trans hF18).trans hF19) [1, 2, 3, 4] (by decide) rfl) ?_
          refine d_tk 21 rfl (by kernel_rfl) rfl rfl rfl rfl (hx55.sh ((hF17.trans hF18).trans hF19) [1, 2, 3, 4] (by decide) rfl) (fun _ _ _ _ _ => a0e rfl rfl rfl (a0c (qq rfl))) ?_
          refine d_tk 22 rfl (by kernel_rfl) rfl rfl rfl rfl (hx55.sh ((hF17.trans hF18).trans hF19) [1, 2, 3, 4] (by decide) rfl) (fun _ _ _ _ _ => a0k rfl rfl rfl rfl (a0c (qq rfl))) ?_
          refine d_tk 23 rfl (by kernel_rfl) rfl rfl rfl rfl (hx55.sh ((hF17.trans hF18).trans hF19) [1, 2, 3, 4] (by decide) rfl) (fun _ _ _ _ _ => a0k rfl rfl rfl rfl (a0c (qq rfl))) ?_
          refine a0l 25 rfl (by kernel_rfl) ?_
          refine a0r sz37 rfl hx55 rfl rfl rfl rfl (i := 0) rfl rfl rfl rfl ?_
          intro wx52 hx56
          refine a0j (hx56.sh ((hF17.trans hF18).trans hF19) [1, 2, 3, 4] (by decide) rfl) ?_
          refine d_tk 26 rfl (by kernel_rfl) rfl rfl rfl rfl (hx56.sh ((hF17.trans hF18).trans hF19) [1, 2, 3, 4] (by decide) rfl) (fun _ _ _ _ _ => a0b rfl rfl rfl (a0c (qq rfl))) ?_
          refine a1t (by kernel_rfl) ?_
          refine a0n (fun a ha => ?_)
          cases hb5
          exact ⟨_, b17, as33, ns33, cs33, as34, ns34, cs34, ((hF17.trans hF18).trans hF19), hx56.pick [0, 1, 2, 3, 4] (by decide) rfl, hs33, hs34, ha.cut (l := [1, 3, 5, 6, 8, 13, 14, 17, 18, 19]) rfl⟩
        ·refine a1c ze37 rfl rfl rfl hx47 ?_
         intro b17 wx46 hx48
         refine a0j (hx48.sh (Frz.refl _) [3, 4, 5, 6] (by decide) rfl) ?_
         refine a0l 5 rfl (by kernel_rfl) ?_
         obtain ⟨l15, hr9, hb5⟩ := bind_some hb5
         refine a1b (r := Rp.str) ap27 rfl rfl rfl hx48 rfl rfl (i := 1) rfl ((show RowN Rp.str Fx4 0 [] [] from ⟨rfl, (rfl : RowR Rp.str _ [] [])⟩)) hs25 hr9 ?_
         intro as29 cs29 wx47 xss29 hx49 hs29
         refine a0j (hx49.sh (Frz.refl _) [3, 4, 5, 6] (by decide) rfl) ?_
         refine a0l 9 rfl (by kernel_rfl) ?_
         obtain ⟨l16, hr10, hb5⟩ := bind_some hb5
         refine a1b (r := Rp.str) ap27 rfl rfl rfl hx49 rfl rfl (i := 1) rfl hs29 hs26 hr10 ?_
         intro as30 cs30 wx48 xss30 hx50 hs30
         refine a0j (hx50.sh (Frz.refl _) [3, 4, 5, 6] (by decide) rfl) ?_
         refine a0l 15 rfl (by kernel_rfl) ?_
         obtain ⟨l17, hr11, hb5⟩ := bind_some hb5
         refine a1b (r := rp_Frac) ap31 rfl rfl rfl hx50 rfl rfl (i := 2) rfl ((show RowN rp_Frac Fx4 0 [] [] from ⟨rfl, (rfl : RowR rp_Frac _ [] [])⟩)) hs27 hr11 ?_
         intro as31 cs31 wx49 xss31 hx51 hs31
         refine a0j (hx51.sh (Frz.refl _) [3, 4, 5, 6] (by decide) rfl) ?_
         refine a0l 19 rfl (by kernel_rfl) ?_
         obtain ⟨l18, hr12, hb5⟩ := bind_some hb5
         refine a1b (r := rp_Frac) ap31 rfl rfl rfl hx51 rfl rfl (i := 2) rfl hs31 hs28 hr12 ?_
         intro as32 cs32 wx50 xss32 hx52 hs32
         refine a0j (hx52.sh (Frz.refl _) [3, 4, 5, 6] (by decide) rfl) ?_
         refine a0l 20 rfl (by kernel_rfl) ?_
         obtain ⟨Fx17, hF17, hx53, hsx5⟩ := a0o hx52 (i := 1) rfl hs30
         obtain ⟨Fx18, hF18, hx54, hsx6⟩ := a0o hx53 (i := 1) rfl (hs32.mono hF17)
         have hG5 := ((((hF1.trans hF2).trans hF3).trans hF4).trans hF17).trans hF18
         obtain ⟨v14, hv9, hb5⟩ := bind_some hb5
         refine a0g ent7 rfl rfl rfl rfl hx54 (a1j _ _ _ _ _ _ hv9 hx54.sat (hs1.mono hG5) (hsx5.mono hF18) ((hsx1.mono hF17).mono hF18) hsx6) ?_
         rintro _ Fx19 _ wx51 hF19 hx55 ⟨as33, ns33, cs33, as34, ns34, cs34, rfl, rfl, hs33, hs34⟩
         refine a0j (hx55.sh ((hF17.trans hF18).trans hF19) [1, 2, 3, 4] (by decide) rfl) ?_
         refine d_tk 21 rfl (by kernel_rfl) rfl rfl rfl rfl (hx55.sh ((hF17.trans hF18).trans hF19) [1, 2, 3, 4] (by decide) rfl) (fun _ _ _ _ _ => a0e rfl rfl rfl (a0c (qq rfl))) ?_
         refine d_tk 22 rfl (by kernel_rfl) rfl rfl rfl rfl (hx55.sh ((hF17.trans hF18).trans hF19) [1, 2, 3, 4] (by decide) rfl) (fun _ _ _ _ _ => a0k rfl rfl rfl rfl (a0c (qq rfl))) ?_
         refine d_tk 23 rfl (by kernel_rfl) rfl rfl rfl rfl (hx55.sh ((hF17.trans hF18).trans hF19) [1, 2, 3, 4] (by decide) rfl) (fun _ _ _ _ _ => a0k rfl rfl rfl rfl (a0c (qq rfl))) ?_
         refine a0l 25 rfl (by kernel_rfl) ?_
         refine a0r sz37 rfl hx55 rfl rfl rfl rfl (i := 0) rfl rfl rfl rfl ?_
         intro wx52 hx56
         refine a0j (hx56.sh ((hF17.trans hF18).trans hF19) [1, 2, 3, 4] (by decide) rfl) ?_
         refine d_tk 26 rfl (by kernel_rfl) rfl rfl rfl rfl (hx56.sh ((hF17.trans hF18).trans hF19) [1, 2, 3, 4] (by decide) rfl) (fun _ _ _ _ _ => a0b rfl rfl rfl (a0c (qq rfl))) ?_
         refine a1t (by kernel_rfl) ?_
         refine a0n (fun a ha => ?_)
         cases hb5
         exact ⟨_, b17, as33, ns33, cs33, as34, ns34, cs34, ((hF17.trans hF18).trans hF19), hx56.pick [0, 1, 2, 3, 4] (by decide) rfl, hs33, hs34, ha.cut (l := [1, 3, 5, 6, 8, 13, 14, 17, 18, 19]) rfl⟩
       ·refine a1c ze37 rfl rfl rfl hx46 ?_
        intro b16 wx45 hx47
        refine a0j (hx47.sh (Frz.refl _) [2, 3, 4, 5] (by decide) rfl) ?_
        refine a0l 1 rfl (by kernel_rfl) ?_
        refine a1a (e := 9) (cs := []) (q := 1) rfl rfl hx47 rfl (fun _ => by kernel_rfl) rfl rfl ?_
        intro b17 wx46 hx48
        refine a0j (hx48.sh (Frz.refl _) [3, 4, 5, 6] (by decide) rfl) ?_
        refine a0l 5 rfl (by kernel_rfl) ?_
        obtain ⟨l15, hr9, hb5⟩ := bind_some hb5
        refine a1b (r := Rp.str) ap27 rfl rfl rfl hx48 rfl rfl (i := 0) rfl ((show RowN Rp.str Fx4 0 [] [] from ⟨rfl, (rfl : RowR Rp.str _ [] [])⟩)) hs25 hr9 ?_
        intro as29 cs29 wx47 xss29 hx49 hs29
        refine a0j (hx49.sh (Frz.refl _) [3, 4, 5, 6] (by decide) rfl) ?_
        refine a0l 9 rfl (by kernel_rfl) ?_
        obtain ⟨l16, hr10, hb5⟩ := bind_some hb5
        refine a1b (r := Rp.str) ap27 rfl rfl rfl hx49 rfl rfl (i := 0) rfl hs29 hs26 hr10 ?_
        intro as30 cs30 wx48 xss30 hx50 hs30
        refine a0j (hx50.sh (Frz.refl _) [3, 4, 5, 6] (by decide) rfl) ?_
        refine a0l 15 rfl (by kernel_rfl) ?_
        obtain ⟨l17, hr11, hb5⟩ := bind_some hb5
        refine a1b (r := rp_Frac) ap31 rfl rfl rfl hx50 rfl rfl (i := 2) rfl ((show RowN rp_Frac Fx4 0 [] [] from ⟨rfl, (rfl : RowR rp_Frac _ [] [])⟩)) hs27 hr11 ?_
        intro as31 cs31 wx49 xss31 hx51 hs31
        refine a0j (hx51.sh (Frz.refl _) [3, 4, 5, 6] (by decide) rfl) ?_
        refine a0l 19 rfl (by kernel_rfl) ?_
        obtain ⟨l18, hr12, hb5⟩ := bind_some hb5
        refine a1b (r := rp_Frac) ap31 rfl rfl rfl hx51 rfl rfl (i := 2) rfl hs31 hs28 hr12 ?_
        intro as32 cs32 wx50 xss32 hx52 hs32
        refine a0j (hx52.sh (Frz.refl _) [3, 4, 5, 6] (by decide) rfl) ?_
        refine a0l 20 rfl (by kernel_rfl) ?_
        obtain ⟨Fx17, hF17, hx53, hsx5⟩ := a0o hx52 (i := 0) rfl hs30
        obtain ⟨Fx18, hF18, hx54, hsx6⟩ := a0o hx53 (i := 1) rfl (hs32.mono hF17)
        have hG5 := ((((hF1.trans hF2).trans hF3).trans hF4).trans hF17).trans hF18
        obtain ⟨v14, hv9, hb5⟩ := bind_some hb5
        refine a0g ent7 rfl rfl rfl rfl hx54 (a1j _ _ _ _ _ _ hv9 hx54.sat (hs1.mono hG5) (hsx5.mono hF18) ((hsx1.mono hF17).mono hF18) hsx6) ?_
        rintro _ Fx19 _ wx51 hF19 hx55 ⟨as33, ns33, cs33, as34, ns34, cs34, rfl, rfl, hs33, hs34⟩
        refine a0j (hx55.sh ((hF17.trans hF18).trans hF19) [1, 2, 3, 4] (by decide) rfl) ?_
        refine d_tk 21 rfl (by kernel_rfl) rfl rfl rfl rfl (hx55.sh ((hF17.trans hF18).trans hF19) [1, 2, 3, 4] (by decide) rfl) (fun _ _ _ _ _ => a0e rfl rfl rfl (a0c (qq rfl))) ?_
        refine d_tk 22 rfl (by kernel_rfl) rfl rfl rfl rfl (hx55.sh ((hF17.trans hF18).trans hF19) [1, 2, 3, 4] (by decide) rfl) (fun _ _ _ _ _ => a0k rfl rfl rfl rfl (a0c (qq rfl))) ?_
        refine d_tk 23 rfl (by kernel_rfl) rfl rfl rfl rfl (hx55.sh ((hF17.trans hF18).trans hF19) [1, 2, 3, 4] (by decide) rfl) (fun _ _ _ _ _ => a0k rfl rfl rfl rfl (a0c (qq rfl))) ?_
        refine a0l 25 rfl (by kernel_rfl) ?_
        refine a0r sz37 rfl hx55 rfl rfl rfl rfl (i := 0) rfl rfl rfl rfl ?_
        intro wx52 hx56
        refine a0j (hx56.sh ((hF17.trans hF18).trans hF19) [1, 2, 3, 4] (by decide) rfl) ?_
        refine d_tk 26 rfl (by kernel_rfl) rfl rfl rfl rfl (hx56.sh ((hF17.trans hF18).trans hF19) [1, 2, 3, 4] (by decide) rfl) (fun _ _ _ _ _ => a0b rfl rfl rfl (a0c (qq rfl))) ?_
        refine a1t (by kernel_rfl) ?_
        refine a0n (fun a ha => ?_)
        cases hb5
        exact ⟨_, b16, as33, ns33, cs33, as34, ns34, cs34, ((hF17.trans hF18).trans hF19), hx56.pick [0, 1, 2, 3, 4] (by decide) rfl, hs33, hs34, ha.cut (l := [1, 3, 5, 6, 8, 13, 14, 17, 18, 19]) rfl⟩
      ·refine a1c ze37 rfl rfl rfl hx45 ?_
       intro b15 wx44 hx46
       refine a0j (hx46.sh (Frz.refl _) [1, 2, 3, 4] (by decide) rfl) ?_
       refine a4j 1 11 rfl rfl (by kernel_rfl) ?_ ?_
       ·refine a1a (e := 9) (cs := []) (q := 1) rfl rfl hx46 rfl (fun _ => by kernel_rfl) rfl rfl ?_
        intro b16 wx45 hx47
        refine a0j (hx47.sh (Frz.refl _) [2, 3, 4, 5] (by decide) rfl) ?_
        refine a4j 5 11 rfl rfl (by kernel_rfl) ?_ ?_
        ·obtain ⟨l15, hr9, hb5⟩ := bind_some hb5
         refine a1b (r := Rp.str) ap27 rfl rfl rfl hx47 rfl rfl (i := 0) rfl ((show RowN Rp.str Fx4 0 [] [] from ⟨rfl, (rfl : RowR Rp.str _ [] [])⟩)) hs25 hr9 ?_
         intro as29 cs29 wx46 xss29 hx48 hs29
         refine a0j (hx48.sh (Frz.refl _) [2, 3, 4, 5] (by decide) rfl) ?_
         refine a4j 9 11 rfl rfl (by kernel_rfl) ?_ ?_
         ·obtain ⟨l16, hr10, hb5⟩ := bind_some hb5
          refine a1b (r := Rp.str) ap27 rfl rfl rfl hx48 rfl rfl (i := 0) rfl hs29 hs26 hr10 ?_
          intro as30 cs30 wx47 xss30 hx49 hs30
          refine a0j (hx49.sh (Frz.refl _) [2, 3, 4, 5] (by decide) rfl) ?_
          refine a0l 11 rfl (by kernel_rfl) ?_
          refine a1a (e := 37) (cs := []) (q := 4) rfl rfl hx49 rfl (fun _ => by kernel_rfl) rfl rfl ?_
          intro b17 wx48 hx50
          refine a0j (hx50.sh (Frz.refl _) [3, 4, 5, 6] (by decide) rfl) ?_
          refine a0l 15 rfl (by kernel_rfl) ?_
          obtain ⟨l17, hr11, hb5⟩ := bind_some hb5
          refine a1b (r := rp_Frac) ap31 rfl rfl rfl hx50 rfl rfl (i := 0) rfl ((show RowN rp_Frac Fx4 0 [] [] from ⟨rfl, (rfl : RowR rp_Frac _ [] [])⟩)) hs27 hr11 ?_
          intro as31 cs31 wx49 xss31 hx51 hs31
          refine a0j (hx51.sh (Frz.refl _) [3, 4, 5, 6] (by decide) rfl) ?_
          refine a0l 19 rfl (by kernel_rfl) ?_
          obtain ⟨l18, hr12, hb5⟩ := bind_some hb5
          refine a1b (r := rp_Frac) ap31 rfl rfl rfl hx51 rfl rfl (i := 0) rfl hs31 hs28 hr12 ?_
          intro as32 cs32 wx50 xss32 hx52 hs32
          refine a0j (hx52.sh (Frz.refl _) [3, 4, 5, 6] (by decide) rfl) ?_
          refine a0l 20 rfl (by kernel_rfl) ?_
          obtain ⟨Fx17, hF17, hx53, hsx5⟩ := a0o hx52 (i := 1) rfl hs30
          obtain ⟨Fx18, hF18, hx54, hsx6⟩ := a0o hx53 (i := 0) rfl (hs32.mono hF17)
          have hG5 := ((((hF1.trans hF2).trans hF3).trans hF4).trans hF17).trans hF18
          obtain ⟨v14, hv9, hb5⟩ := bind_some hb5
          refine a0g ent7 rfl rfl rfl rfl hx54 (a1j _ _ _ _ _ _ hv9 hx54.sat (hs1.mono hG5) (hsx5.mono hF18) ((hsx1.mono hF17).mono hF18) hsx6) ?_
          rintro _ Fx19 _ wx51 hF19 hx55 ⟨as33, ns33, cs33, as34, ns34, cs34, rfl, rfl, hs33, hs34⟩
          refine a0j (hx55.sh ((hF17.trans hF18).trans hF19) [1, 2, 3, 4] (by decide) rfl) ?_
          refine d_tk 21 rfl (by kernel_rfl) rfl rfl rfl rfl (hx55.sh ((hF17.trans hF18).trans hF19) [1, 2, 3, 4] (by decide) rfl) (fun _ _ _ _ _ => a0e rfl rfl rfl (a0c (qq rfl))) ?_
          refine d_tk 22 rfl (by kernel_rfl) rfl rfl rfl rfl (hx55.sh ((hF17.trans hF18).trans hF19) [1, 2, 3, 4] (by decide) rfl) (fun _ _ _ _ _ => a0k rfl rfl rfl rfl (a0c (qq rfl))) ?_
          refine d_tk 23 rfl (by kernel_rfl) rfl rfl rfl rfl (hx55.sh ((hF17.trans hF18).trans hF19) [1, 2, 3, 4] (by decide) rfl) (fun _ _ _ _ _ => a0k rfl rfl rfl rfl (a0c (qq rfl))) ?_
          refine a0l 25 rfl (by kernel_rfl) ?_
          refine a0r sz37 rfl hx55 rfl rfl rfl rfl (i := 0) rfl rfl rfl rfl ?_
          intro wx52 hx56
          refine a0j (hx56.sh ((hF17.trans hF18).trans hF19) [1, 2, 3, 4] (by decide) rfl) ?_
          refine d_tk 26 rfl (by kernel_rfl) rfl rfl rfl rfl (hx56.sh ((hF17.trans hF18).trans hF19) [1, 2, 3, 4] (by decide) rfl) (fun _ _ _ _ _ => a0b rfl rfl rfl (a0c (qq rfl))) ?_
          refine a1t (by kernel_rfl) ?_
          refine a0n (fun a ha => ?_)
          cases hb5
          exact ⟨_, b15, as33, ns33, cs33, as34, ns34, cs34, ((hF17.trans hF18).trans hF19), hx56.pick [0, 1, 2, 3, 4] (by decide) rfl, hs33, hs34, ha.cut (l := [1, 3, 5, 6, 8, 13, 14, 17, 18, 19]) rfl⟩
         ·refine a1a (e := 37) (cs := []) (q := 4) rfl rfl hx48 rfl (fun _ => by kernel_rfl) rfl rfl ?_
          intro b17 wx47 hx49
          refine a0j (hx49.sh (Frz.refl _) [3, 4, 5, 6] (by decide) rfl) ?_
          refine a0l 9 rfl (by kernel_rfl) ?_
          obtain ⟨l16, hr10, hb5⟩ := bind_some hb5
          refine a1b (r := Rp.str) ap27 rfl rfl rfl hx49 rfl rfl (i := 1) rfl hs29 hs26 hr10 ?_
          intro as30 cs30 wx48 xss30 hx50 hs30
          refine a0j (hx50.sh (Frz.refl _) [3, 4, 5, 6] (by decide) rfl) ?_
          refine a0l 15 rfl (by kernel_rfl) ?_
          obtain ⟨l17, hr11, hb5⟩ := bind_some hb5
          refine a1b (r := rp_Frac) ap31 rfl rfl rfl hx50 rfl rfl (i := 0) rfl ((show RowN rp_Frac Fx4 0 [] [] from ⟨rfl, (rfl : RowR rp_Frac _ [] [])⟩)) hs27 hr11 ?_
          intro as31 cs31 wx49 xss31 hx51 hs31
          refine a0j (hx51.sh (Frz.refl _) [3, 4, 5, 6] (by decide) rfl) ?_
          refine a0l 19 rfl (by kernel_rfl) ?_
          obtain ⟨l18, hr12, hb5⟩ := bind_some hb5
          refine a1b (r := rp_Frac) ap31 rfl rfl rfl hx51 rfl rfl (i := 0) rfl hs31 hs28 hr12 ?_
          intro as32 cs32 wx50 xss32 hx52 hs32
          refine a0j (hx52.sh (Frz.refl _) [3, 4, 5, 6] (by decide) rfl) ?_
          refine a0l 20 rfl (by kernel_rfl) ?_
          obtain ⟨Fx17, hF17, hx53, hsx5⟩ := a0o hx52 (i := 1) rfl hs30
          obtain ⟨Fx18, hF18, hx54, hsx6⟩ := a0o hx53 (i := 0) rfl (hs32.mono hF17)
          have hG5 := ((((hF1.trans hF2).trans hF3).trans hF4).trans hF17).trans hF18
          obtain ⟨v14, hv9, hb5⟩ := bind_some hb5
          refine a0g ent7 rfl rfl rfl rfl hx54 (a1j _ _ _ _ _ _ hv9 hx54.sat (hs1.mono hG5) (hsx5.mono hF18) ((hsx1.mono hF17).mono hF18) hsx6) ?_
          rintro _ Fx19 _ wx51 hF19 hx55 ⟨as33, ns33, cs33, as34, ns34, cs34, rfl, rfl, hs33, hs34⟩
          refine a0j (hx55.sh ((hF17.trans hF18).trans hF19) [1, 2, 3, 4] (by decide) rfl) ?_
          refine d_tk 21 rfl (by kernel_rfl) rfl rfl rfl rfl (hx55.sh ((hF17.trans hF18).trans hF19) [1, 2, 3, 4] (by decide) rfl) (fun _ _ _ _ _ => a0e rfl rfl rfl (a0c (qq rfl))) ?_
          refine d_tk 22 rfl (by kernel_rfl) rfl rfl rfl rfl (hx55.sh ((hF17.trans hF18).trans hF19) [1, 2, 3, 4] (by decide) rfl) (fun _ _ _ _ _ => a0k rfl rfl rfl rfl (a0c (qq rfl))) ?_
          refine d_tk 23 rfl (by kernel_rfl) rfl rfl rfl rfl (hx55.sh ((hF17.trans hF18).trans hF19) [1, 2, 3, 4] (by decide) rfl) (fun _ _ _ _ _ => a0k rfl rfl rfl rfl (a0c (qq rfl))) ?_
          refine a0l 25 rfl (by kernel_rfl) ?_
          refine a0r sz37 rfl hx55 rfl rfl rfl rfl (i := 0) rfl rfl rfl rfl ?_
          intro wx52 hx56
          refine a0j (hx56.sh ((hF17.trans hF18).trans hF19) [1, 2, 3, 4] (by decide) rfl) ?_
          refine d_tk 26 rfl (by kernel_rfl) rfl rfl rfl rfl (hx56.sh ((hF17.trans hF18).trans hF19) [1, 2, 3, 4] (by decide) rfl) (fun _ _ _ _ _ => a0b rfl rfl rfl (a0c (qq rfl))) ?_
          refine a1t (by kernel_rfl) ?_
          refine a0n (fun a ha => ?_)
          cases hb5
          exact ⟨_, b15, as33, ns33, cs33, as34, ns34, cs34, ((hF17.trans hF18).trans hF19), hx56.pick [0, 1, 2, 3, 4] (by decide) rfl, hs33, hs34, ha.cut (l := [1, 3, 5, 6, 8, 13, 14, 17, 18, 19]) rfl⟩
        ·refine a1a (e := 37) (cs := []) (q := 4) rfl rfl hx47 rfl (fun _ => by kernel_rfl) rfl rfl ?_
         intro b17 wx46 hx48
         refine a0j (hx48.sh (Frz.refl _) [3, 4, 5, 6] (by decide) rfl) ?_
         refine a0l 5 rfl (by kernel_rfl) ?_
         obtain ⟨l15, hr9, hb5⟩ := bind_some hb5
         refine a1b (r := Rp.str) ap27 rfl rfl rfl hx48 rfl rfl (i := 1) rfl ((show RowN Rp.str Fx4 0 [] [] from ⟨rfl, (rfl : RowR Rp.str _ [] [])⟩)) hs25 hr9 ?_
         intro as29 cs29 wx47 xss29 hx49 hs29
         refine a0j (hx49.sh (Frz.refl _) [3, 4, 5, 6] (by decide) rfl) ?_
         refine a0l 9 rfl (by kernel_rfl) ?_
         obtain ⟨l16, hr10, hb5⟩ := bind_some hb5
         refine a1b (r := Rp.str) ap27 rfl rfl rfl hx49 rfl rfl (i := 1) rfl hs29 hs26 hr10 ?_
         intro as30 cs30 wx48 xss30 hx50 hs30
         refine a0j (hx50.sh (Frz.refl _) [3, 4, 5, 6] (by decide) rfl) ?_
         refine a0l 15 rfl (by kernel_rfl) ?_
         obtain ⟨l17, hr11, hb5⟩ := bind_some hb5
         refine a1b (r := rp_Frac) ap31 rfl rfl rfl hx50 rfl rfl (i := 0) rfl ((show RowN rp_Frac Fx4 0 [] [] from ⟨rfl, (rfl : RowR rp_Frac _ [] [])⟩)) hs27 hr11 ?_
         intro as31 cs31 wx49 xss31 hx51 hs31
         refine a0j (hx51.sh (Frz.refl _) [3, 4, 5, 6] (by decide) rfl) ?_
         refine a0l 19 rfl (by kernel_rfl) ?_
         obtain ⟨l18, hr12, hb5⟩ := bind_some hb5
         refine a1b (r := rp_Frac) ap31 rfl rfl rfl hx51 rfl rfl (i := 0) rfl hs31 hs28 hr12 ?_
         intro as32 cs32 wx50 xss32 hx52 hs32
         refine a0j (hx52.sh (Frz.refl _) [3, 4, 5, 6] (by decide) rfl) ?_
         refine a0l 20 rfl (by kernel_rfl) ?_
         obtain ⟨Fx17, hF17, hx53, hsx5⟩ := a0o hx52 (i := 1) rfl hs30
         obtain ⟨Fx18, hF18, hx54, hsx6⟩ := a0o hx53 (i := 0) rfl (hs32.mono hF17)
         have hG5 := ((((hF1.trans hF2).trans hF3).trans hF4).trans hF17).trans hF18
         obtain ⟨v14, hv9, hb5⟩ := bind_some hb5
         refine a0g ent7 rfl rfl rfl rfl hx54 (a1j _ _ _ _ _ _ hv9 hx54.sat (hs1.mono hG5) (hsx5.mono hF18) ((hsx1.mono hF17).mono hF18) hsx6) ?_
         rintro _ Fx19 _ wx51 hF19 hx55 ⟨as33, ns33, cs33, as34, ns34, cs34, rfl, rfl, hs33, hs34⟩
         refine a0j (hx55.sh ((hF17.trans hF18).trans hF19) [1, 2, 3, 4] (by decide) rfl) ?_
         refine d_tk 21 rfl (by kernel_rfl) rfl rfl rfl rfl (hx55.sh ((hF17.trans hF18).trans hF19) [1, 2, 3, 4] (by decide) rfl) (fun _ _ _ _ _ => a0e rfl rfl rfl (a0c (qq rfl))) ?_
         refine d_tk 22 rfl (by kernel_rfl) rfl rfl rfl rfl (hx55.sh ((hF17.trans hF18).trans hF19) [1, 2, 3, 4] (by decide) rfl) (fun _ _ _ _ _ => a0k rfl rfl rfl rfl (a0c (qq rfl))) ?_
         refine d_tk 23 rfl (by kernel_rfl) rfl rfl rfl rfl (hx55.sh ((hF17.trans hF18).trans hF19) [1, 2, 3, 4] (by decide) rfl) (fun _ _ _ _ _ => a0k rfl rfl rfl rfl (a0c (qq rfl))) ?_
         refine a0l 25 rfl (by kernel_rfl) ?_
         refine a0r sz37 rfl hx55 rfl rfl rfl rfl (i := 0) rfl rfl rfl rfl ?_
         intro wx52 hx56
         refine a0j (hx56.sh ((hF17.trans hF18).trans hF19) [1, 2, 3, 4] (by decide) rfl) ?_
         refine d_tk 26 rfl (by kernel_rfl) rfl rfl rfl rfl (hx56.sh ((hF17.trans hF18).trans hF19) [1, 2, 3, 4] (by decide) rfl) (fun _ _ _ _ _ => a0b rfl rfl rfl (a0c (qq rfl))) ?_
         refine a1t (by kernel_rfl) ?_
         refine a0n (fun a ha => ?_)
         cases hb5
         exact ⟨_, b15, as33, ns33, cs33, as34, ns34, cs34, ((hF17.trans hF18).trans hF19), hx56.pick [0, 1, 2, 3, 4] (by decide) rfl, hs33, hs34, ha.cut (l := [1, 3, 5, 6, 8, 13, 14, 17, 18, 19]) rfl⟩
       ·refine a1a (e := 37) (cs := []) (q := 4) rfl rfl hx46 rfl (fun _ => by kernel_rfl) rfl rfl ?_
        intro b16 wx45 hx47
        refine a0j (hx47.sh (Frz.refl _) [2, 3, 4, 5] (by decide) rfl) ?_
        refine a0l 1 rfl (by kernel_rfl) ?_
        refine a1a (e := 9) (cs := []) (q := 1) rfl rfl hx47 rfl (fun _ => by kernel_rfl) rfl rfl ?_
        intro b17 wx46 hx48
        refine a0j (hx48.sh (Frz.refl _) [3, 4, 5, 6] (by decide) rfl) ?_
        refine a0l 5 rfl (by kernel_rfl) ?_
        obtain ⟨l15, hr9, hb5⟩ := bind_some hb5
        refine a1b (r := Rp.str) ap27 rfl rfl rfl hx48 rfl rfl (i := 0) rfl ((show RowN Rp.str Fx4 0 [] [] from ⟨rfl, (rfl : RowR Rp.str _ [] [])⟩)) hs25 hr9 ?_
        intro as29 cs29 wx47 xss29 hx49 hs29
        refine a0j (hx49.sh (Frz.refl _) [3, 4, 5, 6] (by decide) rfl) ?_
        refine a0l 9 rfl (by kernel_rfl) ?_
        obtain ⟨l16, hr10, hb5⟩ := bind_some hb5
        refine a1b (r := Rp.str) ap27 rfl rfl rfl hx49 rfl rfl (i := 0) rfl hs29 hs26 hr10 ?_
        intro as30 cs30 wx48 xss30 hx50 hs30
        refine a0j (hx50.sh (Frz.refl _) [3, 4, 5, 6] (by decide) rfl) ?_
        refine a0l 15 rfl (by kernel_rfl) ?_
        obtain ⟨l17, hr11, hb5⟩ := bind_some hb5
        refine a1b (r := rp_Frac) ap31 rfl rfl rfl hx50 rfl rfl (i := 1) rfl ((show RowN rp_Frac Fx4 0 [] [] from ⟨rfl, (rfl : RowR rp_Frac _ [] [])⟩)) hs27 hr11 ?_
        intro as31 cs31 wx49 xss31 hx51 hs31
        refine a0j (hx51.sh (Frz.refl _) [3, 4, 5, 6] (by decide) rfl) ?_
        refine a0l 19 rfl (by kernel_rfl) ?_
        obtain ⟨l18, hr12, hb5⟩ := bind_some hb5
        refine a1b (r := rp_Frac) ap31 rfl rfl rfl hx51 rfl rfl (i := 1) rfl hs31 hs28 hr12 ?_
        intro as32 cs32 wx50 xss32 hx52 hs32
        refine a0j (hx52.sh (Frz.refl _) [3, 4, 5, 6] (by decide) rfl) ?_
        refine a0l 20 rfl (by kernel_rfl) ?_
        obtain ⟨Fx17, hF17, hx53, hsx5⟩ := a0o hx52 (i := 0) rfl hs30
        obtain ⟨Fx18, hF18, hx54, hsx6⟩ := a0o hx53 (i := 0) rfl (hs32.mono hF17)
        have hG5 := ((((hF1.trans hF2).trans hF3).trans hF4).trans hF17).trans hF18
        obtain ⟨v14, hv9, hb5⟩ := bind_some hb5
        refine a0g ent7 rfl rfl rfl rfl hx54 (a1j _ _ _ _ _ _ hv9 hx54.sat (hs1.mono hG5) (hsx5.mono hF18) ((hsx1.mono hF17).mono hF18) hsx6) ?_
        rintro _ Fx19 _ wx51 hF19 hx55 ⟨as33, ns33, cs33, as34, ns34, cs34, rfl, rfl, hs33, hs34⟩
        refine a0j (hx55.sh ((hF17.trans hF18).trans hF19) [1, 2, 3, 4] (by decide) rfl) ?_
        refine d_tk 21 rfl (by kernel_rfl) rfl rfl rfl rfl (hx55.sh ((hF17.trans hF18).trans hF19) [1, 2, 3, 4] (by decide) rfl) (fun _ _ _ _ _ => a0e rfl rfl rfl (a0c (qq rfl))) ?_
        refine d_tk 22 rfl (by kernel_rfl) rfl rfl rfl rfl (hx55.sh ((hF17.trans hF18).trans hF19) [1, 2, 3, 4] (by decide) rfl) (fun _ _ _ _ _ => a0k rfl rfl rfl rfl (a0c (qq rfl))) ?_
        refine d_tk 23 rfl (by kernel_rfl) rfl rfl rfl rfl (hx55.sh ((hF17.trans hF18).trans hF19) [1, 2, 3, 4] (by decide) rfl) (fun _ _ _ _ _ => a0k rfl rfl rfl rfl (a0c (qq rfl))) ?_
        refine a0l 25 rfl (by kernel_rfl) ?_
        refine a0r sz37 rfl hx55 rfl rfl rfl rfl (i := 0) rfl rfl rfl rfl ?_
        intro wx52 hx56
        refine a0j (hx56.sh ((hF17.trans hF18).trans hF19) [1, 2, 3, 4] (by decide) rfl) ?_
        refine d_tk 26 rfl (by kernel_rfl) rfl rfl rfl rfl (hx56.sh ((hF17.trans hF18).trans hF19) [1, 2, 3, 4] (by decide) rfl) (fun _ _ _ _ _ => a0b rfl rfl rfl (a0c (qq rfl))) ?_
        refine a1t (by kernel_rfl) ?_
        refine a0n (fun a ha => ?_)
        cases hb5
        exact ⟨_, b15, as33, ns33, cs33, as34, ns34, cs34, ((hF17.trans hF18).trans hF19), hx56.pick [0, 1, 2, 3, 4] (by decide) rfl, hs33, hs34, ha.cut (l := [1, 3, 5, 6, 8, 13, 14, 17, 18, 19]) rfl⟩
  ·clear hm
   rcases a0h hb2 with ⟨hb15, hb2⟩ | ⟨hb15, hb2⟩
   ·refine a1l 35 rfl hb15 ?_
    refine a0z rfl (by decide) rfl (a0z rfl (by decide) rfl (a0z rfl (by decide) rfl (a0s rfl rfl rfl rfl (a0c ?_))))
    refine a0n (fun a ha => ?_)
    cases hb2
    exact ⟨rfl, ha.cut (l := [1, 3, 4, 5, 6, 8, 13, 39]) rfl⟩
   ·refine a1l 35 rfl hb15 ?_
    refine a0e rfl rfl rfl ?_
    refine a1x hs2.len u27 rfl rfl rfl ?_
    refine a0w rfl rfl rfl rfl rfl ?_
    refine a0q rfl rfl rfl rfl (a0c ?_)
    refine a0n (fun a ha => ?_)
    cases hb2
    exact ⟨rfl, ha.cut (l := [1, 3, 4, 5, 6, 8, 13, 39]) rfl⟩
 ·clear hm
  rcases a0h hb1 with ⟨hb16, hb1⟩ | ⟨hb16, hb1⟩
  ·refine a1l 30 rfl hb16 ?_
   refine a0z rfl (by decide) rfl (a0z rfl (by decide) rfl (a0z rfl (by decide) rfl (a0s rfl rfl rfl rfl (a0c ?_))))
   refine a0n (fun a ha => ?_)
   cases hb1
   exact ⟨rfl, ha.cut (l := [1, 3, 4, 5, 6, 8, 13, 34]) rfl⟩
  ·refine a1l 30 rfl hb16 ?_
   refine a0e rfl rfl rfl ?_
   refine b7u u9 rfl rfl rfl ?_
   refine a0w rfl rfl rfl rfl rfl ?_
   refine a0q rfl rfl rfl rfl (a0c ?_)
   refine a0n (fun a ha => ?_)
   cases hb1
   exact ⟨rfl, ha.cut (l := [1, 3, 4, 5, 6, 8, 13, 34]) rfl⟩
end Go.Proofs.Ytknpjecpcmajiaa.M

namespace Go.Proofs.Ytknpjecpcmajiaa.Rt
open Go
def Ev {α : Type} (f : Nat → Option α) (r : α) : Prop := ∃ N, ∀ n, N ≤ n → f n = some r
section
variable {α β : Type}
theorem Ev.pure (a : α) : Ev (fun _ => some a) a := ⟨0, fun _ _ => rfl⟩
theorem Ev.all {f : Nat → Option α} {r : α} (h : ∀ n, f n = some r) : Ev f r := ⟨0, fun n _ => h n⟩
theorem Ev.bind {x : Nat → Option α} {f : Nat → α → Option β} {a : α} {b : β} (hx : Ev x a) (hf : Ev (fun n => f n a) b) : Ev (fun n => (x n).bind (f n)) b := by
  obtain ⟨N, hN⟩ := hx
  obtain ⟨M, hM⟩ := hf
  refine ⟨max N M, fun n hn => ?_⟩
  show (x n).bind (f n) = some b
  rw [hN n (by omega)]
  exact hM n (by omega)
theorem Ev.step {x : Option α} {f : Nat → α → Option β} {a : α} {b : β} (hx : x = some a) (hf : Ev (fun n => f n a) b) : Ev (fun n => x.bind (f n)) b := by
  subst hx; exact hf
theorem Ev.then {x : Nat → Option α} {b : α} {c : Bool} {y : Nat → Option α} (hc : c = true) (h : Ev x b) : Ev (fun n => bif c then x n else y n) b := by subst hc; exact h
theorem Ev.else {x : Nat → Option α} {b : α} {c : Bool} {y : Nat → Option α} (hc : c = false) (h : Ev y b) : Ev (fun n => bif c then x n else y n) b := by subst hc; exact h
theorem Ev.from {f g : Nat → Option α} {r : α} (N : Nat) (h : ∀ n, N ≤ n → f n = g n) (hg : Ev g r) : Ev f r := by
  obtain ⟨M, hM⟩ := hg
  exact ⟨max N M, fun n hn => by rw [h n (by omega)]; exact hM n (by omega)⟩
theorem Ev.eq {f : Nat → Option α} {r s : α} (h : Ev f r) (e : r = s) : Ev f s := e ▸ h
theorem Ev.uniq {f : Nat → Option α} {r s : α} (h : Ev f r) (k : Ev f s) : r = s := by
  obtain ⟨N, hN⟩ := h
  obtain ⟨M, hM⟩ := k
  have h1 := hN (max N M) (by omega)
  rw [hM (max N M) (by omega)] at h1
  exact (Option.some.inj h1).symm
end
theorem c7z (x : Int) : IntKind.i64.wrap x = if x % 18446744073709551616 ≥ 9223372036854775808 then x % 18446744073709551616 - 18446744073709551616 else x % 18446744073709551616 := by
  simp [IntKind.wrap, IntKind.bits, IntKind.signed]
theorem a5g {x : Int} (h1 : -9223372036854775808 ≤ x) (h2 : x ≤ 9223372036854775807) : IntKind.i64.wrap x = x := by
  rw [c7z]; split <;> omega
theorem b1p (x : Int) : IntKind.u64.wrap x = x % 18446744073709551616 := by
  simp [IntKind.wrap, IntKind.bits, IntKind.signed]
theorem a3q {x y : Int} (h1 : -9223372036854775808 ≤ x + y) (h2 : x + y ≤ 9223372036854775807) : iadd .i64 x y = x + y := a5g h1 h2
theorem a2k {x y : Int} (h1 : -9223372036854775808 ≤ x - y) (h2 : x - y ≤ 9223372036854775807) : isub .i64 x y = x - y := a5g h1 h2
theorem a7d {x y : Int} (h1 : -9223372036854775808 ≤ x * y) (h2 : x * y ≤ 9223372036854775807) : imul .i64 x y = x * y := a5g h1 h2
theorem b9d (k : IntKind) (x : Int) (m : Nat) (hk : k.bits = 64) (hm : m < 64) : (BitVec.ofInt k.bits x &&& BitVec.ofInt k.bits ((2 ^ m - 1 : Nat) : Int)).toNat = (x % 18446744073709551616).toNat % 2 ^ m := by
  rw [BitVec.toNat_and, BitVec.toNat_ofInt, BitVec.toNat_ofInt, hk]
  have h2 : (((2 ^ m - 1 : Nat) : Int) % ((2 ^ 64 : Nat) : Int)).toNat = 2 ^ m - 1 := by
    have : 2 ^ m < 2 ^ 64 := Nat.pow_lt_pow_right (by omega) hm
    rw [← Int.natCast_emod, Int.toNat_natCast, Nat.mod_eq_of_lt (by omega)]
  rw [h2, Nat.and_two_pow_sub_one_eq_mod]
  rfl
theorem b2f (x : Int) : iand .i64 x 1048575 = x % 1048576 := by
  have h := b9d .i64 x 20 rfl (by omega)
  have e : ((2 ^ 20 - 1 : Nat) : Int) = 1048575 := by decide
  rw [e] at h
  unfold iand
  rw [h, a5g (by omega) (by omega)]
  omega
theorem c3g {x : Int} (h0 : 0 ≤ x) (h1 : x < 18446744073709551616) : iand .u64 x 1048575 = x % 1048576 := by
  have h := b9d .u64 x 20 rfl (by omega)
  have e : ((2 ^ 20 - 1 : Nat) : Int) = 1048575 := by decide
  rw [e] at h
  unfold iand
  rw [h, b1p]
  omega
theorem c7e (x : Int) : iand .i64 x 1 = x % 2 := by
  have h := b9d .i64 x 1 rfl (by omega)
  have e : ((2 ^ 1 - 1 : Nat) : Int) = 1 := by decide
  rw [e] at h
  unfold iand
  rw [h, a5g (by omega) (by omega)]
  omega
theorem b6g (x : Int) : shr .i64 x 20 = some (x / 1048576) := by
  unfold shr
  rw [if_neg (by omega), Int.fdiv_eq_ediv_of_nonneg _ (by decide)]
  rfl
theorem c9f (x : Int) : shr .u64 x 20 = some (x / 1048576) := by
  unfold shr
  rw [if_neg (by omega), Int.fdiv_eq_ediv_of_nonneg _ (by decide)]
  rfl
theorem b6m {x : Int} (h0 : -8796093022208 ≤ x) (h1 : x < 8796093022208) : shl .i64 x 20 = some (x * 1048576) := by
  unfold shl
  rw [if_neg (by omega), show (2 : Int) ^ (min (20 : Int).toNat IntKind.i64.bits) = 1048576 from by decide, a5g (by omega) (by omega)]
theorem b6o {x y : Int} (h0 : 0 ≤ x) (h1 : x < 8796093022208) (h2 : 0 ≤ y) (h3 : y < 1048576) : ior .i64 (x * 1048576) y = x * 1048576 + y := by
  obtain ⟨p, rfl⟩ := Int.eq_ofNat_of_zero_le h0
  obtain ⟨q, rfl⟩ := Int.eq_ofNat_of_zero_le h2
  unfold ior
  rw [BitVec.toNat_or, BitVec.toNat_ofInt, BitVec.toNat_ofInt, show IntKind.i64.bits = 64 from rfl]
  have e1 : (((p : Int) * 1048576) % ((2 ^ 64 : Nat) : Int)).toNat = 2 ^ 20 * p := by omega
  have e2 : ((q : Int) % ((2 ^ 64 : Nat) : Int)).toNat = q := by omega
  rw [e1, e2, ← Nat.two_pow_add_eq_or_of_lt (by omega), a5g (by omega) (by omega)]
  omega
theorem b5z {x y : Int} (h0 : 0 ≤ x) (h1 : x ≤ 9223372036854775807) (h2 : 0 < y) : quo .i64 x y = some (x / y) := by
  unfold quo
  have h3 := Int.ediv_nonneg h0 (Int.le_of_lt h2)
  have h4 := Int.ediv_le_self y h0
  rw [if_neg (by omega), Int.tdiv_eq_ediv_of_nonneg h0, a5g (by omega) (by omega)]
theorem b4h {x y : Int} (h0 : 0 ≤ x) (h2 : 0 < y) : rem x y = some (x % y) := by
  unfold rem
  rw [if_neg (by omega), Int.tmod_eq_emod_of_nonneg h0]
section
variable {α : Type}
theorem b3d (l : List α) (i : Nat) : ix l (i : Int) = l[i]? := by simp [ix]
theorem a7n (p : List α) (x : α) (s : List α) {i : Int} (hi : i = p.length) : ix (p ++ x :: s) i = some x := by
  subst hi; rw [b3d]; simp
theorem a8l (p : List α) (x y : α) (s : List α) {i : Int} (hi : i = p.length) : lset (p ++ x :: s) i y = some (p ++ y :: s) := by
  subst hi
  unfold lset
  rw [if_pos ⟨by omega, by simp; omega⟩]
  simp
theorem b8f {b : Nat} {z : α} {n : Nat} (h : n * b ≤ 140737488355328) : mks b z (n : Int) = some (List.replicate n z) := by
  unfold mks; rw [if_pos ⟨by omega, by simpa using h⟩]; simp
theorem b3u {b : Nat} {l m : List α} (h : (l.length + m.length) * b ≤ 140737488355328) : app b l m = some (l ++ m) := by unfold app; rw [if_pos h]
theorem b7s {l : List α} {p q : Nat} (h : p ≤ q) (h2 : q ≤ l.length) : lsl l (p : Int) (q : Int) = some ((l.take q).drop p) := by
  unfold lsl; rw [if_pos ⟨by omega, by omega, by omega⟩]; simp
end
end Go.Proofs.Ytknpjecpcmajiaa.Rt

