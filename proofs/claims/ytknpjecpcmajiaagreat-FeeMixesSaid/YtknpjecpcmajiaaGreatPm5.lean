/- Several texts in one, for FeeMixes.said: what the theorem leans on. -/
import Derived.Test.YtknpjecpcmajiaaGreatRows
import Derived.KernelRfl
import Derived.Test.YtknpjecpcmajiaaGreatPm4
namespace Go.Proofs.YtknpjecpcmajiaaGreat.Wrap
open Go Go.ChangeShapes Go.WideShapes Go.ChangeAt Go.RowKit Rt
theorem c4i (W : World) : b2o Tryz.prog W 9 Rp.str (fun s => s.length ≤ maxLen) := c5b Tryz.underlying9
theorem cells9 : Tryz.prog.cellsOf 9 = 1 := by kernel_rfl
theorem b7r (W : World) : b2o Tryz.prog W 3 (Rp.int .i64) (fun z => IntKind.i64.min ≤ z ∧ z ≤ IntKind.i64.max) := c6l Tryz.underlying3
theorem cells3 : Tryz.prog.cellsOf 3 = 1 := by kernel_rfl
theorem cells22 : Tryz.prog.cellsOf 22 = 1 := by kernel_rfl
theorem cells24 : Tryz.prog.cellsOf 24 = 4 := by kernel_rfl
inductive WfX : M.Expr → Prop
  | mk {o n : Int} {s : Rt.Bs} {l : List M.Expr} : (IntKind.i64.min ≤ o ∧ o ≤ IntKind.i64.max) → (IntKind.i64.min ≤ n ∧ n ≤ IntKind.i64.max) → s.length ≤ maxLen → l.length ≤ maxLen → (∀ y, y ∈ l → WfX y) → WfX ⟨o, n, s, l⟩
def ok24 (x : M.Expr) : Prop := WfX x
set_option maxRecDepth 100000 in
theorem c6v (W : World) {H : Type} (enc : TypeId × Value → H) : ∀ (fuel : Nat) (cs : List Value) (x : DataW H × List MemPlace), DataW.trod enc Tryz.prog W 0 (fun _ => true) true fuel 24 cs = some x → ∃ y, M.rp_Expr.R (all W) cs y ∧ WfX y := by
  intro fuel
  induction fuel using Nat.strongRecOn with
  | ind fuel ih =>
    intro cs x h
    obtain ⟨xs, n, hfu, _, hl, hn, hf⟩ := DataW.trod_struct Tryz.underlying24 h
    obtain ⟨y0, r0, o0⟩ := a7a hn hf (i := 0) rfl (b7r W)
    obtain ⟨y1, r1, o1⟩ := a7a hn hf (i := 1) rfl (b7r W)
    obtain ⟨y2, r2, o2⟩ := a7a hn hf (i := 2) rfl (c4i W)
    have h3 : DataW.trod enc Tryz.prog W 0 (fun _ => true) true n 22 ((cs.drop 3).take (Tryz.prog.cellsOf 22)) = xs[3]? := hf 3 _ rfl
    have h3l : 3 < xs.length := by rw [hn]; decide
    rw [List.getElem?_eq_getElem h3l] at h3
    obtain ⟨l, ⟨a, m, c, e3', s3⟩, o3, o4⟩ := c6w Tryz.underlying22 (r := M.rp_Expr) (ok := WfX) (by rw [cells24]; rfl) (by decide) h3 (fun j cs' x' hj hx => ih j (by omega) cs' x' hx)
    have e0 : (cs.drop 0).take (Tryz.prog.cellsOf 3) = [.int .i64 y0] := r0
    have e1 : (cs.drop 1).take (Tryz.prog.cellsOf 3) = [.int .i64 y1] := r1
    have e2 : (cs.drop 2).take (Tryz.prog.cellsOf 9) = [vs y2] := r2
    have e3 : (cs.drop 3).take (Tryz.prog.cellsOf 22) = [.slice a m c] := e3'
    rw [cells3] at e0 e1
    rw [cells9] at e2
    rw [cells22] at e3
    rw [cells24] at hl
    refine ⟨⟨y0, y1, y2, l⟩, M.expr_iff.2 ⟨a, m, c, ?_, s3⟩, WfX.mk o0 o1 o2 o3 o4⟩
    show cs = _
    have hd : cs.drop 4 = [] := List.drop_of_length_le (by omega)
    have h0 : cs = cs.drop 0 := (List.drop_zero).symm
    rw [h0]
    rw [show cs.drop 0 = (cs.drop 0).take 1 ++ cs.drop 1 from a6j cs 0 1, e0]
    rw [show cs.drop 1 = (cs.drop 1).take 1 ++ cs.drop 2 from a6j cs 1 1, e1]
    rw [show cs.drop 2 = (cs.drop 2).take 1 ++ cs.drop 3 from a6j cs 2 1, e2]
    rw [show cs.drop 3 = (cs.drop 3).take 1 ++ cs.drop 4 from a6j cs 3 1, e3]
    rw [hd]
    rfl
theorem c8x (W : World) : b2o Tryz.prog W 24 M.rp_Expr ok24 := fun enc fuel cs x h => c6v W enc fuel cs x h
theorem cells26 : Tryz.prog.cellsOf 26 = 6 := by kernel_rfl
def ok26 (x : M.Tariff) : Prop := x.Name.length ≤ maxLen ∧ ok24 x.Fee ∧ (IntKind.i64.min ≤ x.Cap ∧ x.Cap ≤ IntKind.i64.max)
set_option maxRecDepth 100000 in
theorem d0q (W : World) : b2o Tryz.prog W 26 M.rp_Tariff ok26 := by
  intro H enc fuel cs x h
  obtain ⟨xs, n, _, _, hl, hn, hf⟩ := DataW.trod_struct Tryz.underlying26 h
  obtain ⟨y0, r0, o0⟩ := a7a hn hf (i := 0) rfl (c4i W)
  have e0' := r0
  have e0 : (cs.drop 0).take (Tryz.prog.cellsOf 9) = [vs y0] := e0'
  rw [cells9] at e0
  obtain ⟨y1, r1, o1⟩ := a7a hn hf (i := 1) rfl (c8x W)
  obtain ⟨a1_3, n1_3, c1_3, e1', s1_3⟩ := (M.expr_iff.1 r1)
  have e1 : (cs.drop 1).take (Tryz.prog.cellsOf 24) = [.int .i64 y1.Op, .int .i64 y1.N, vs y1.Name, .slice a1_3 n1_3 c1_3] := e1'
  rw [cells24] at e1
  obtain ⟨y2, r2, o2⟩ := a7a hn hf (i := 2) rfl (b7r W)
  have e2' := r2
  have e2 : (cs.drop 5).take (Tryz.prog.cellsOf 3) = [.int .i64 y2] := e2'
  rw [cells3] at e2
  rw [cells26] at hl
  refine ⟨⟨y0, y1, y2⟩, ⟨a1_3, n1_3, c1_3, ?_, s1_3⟩, o0, o1, o2⟩
  show cs = _
  have hd : cs.drop 6 = [] := List.drop_of_length_le (by omega)
  have h0 : cs = cs.drop 0 := (List.drop_zero).symm
  rw [h0]
  rw [show cs.drop 0 = (cs.drop 0).take 1 ++ cs.drop 1 from a6j cs 0 1, e0]
  rw [show cs.drop 1 = (cs.drop 1).take 4 ++ cs.drop 5 from a6j cs 1 4, e1]
  rw [show cs.drop 5 = (cs.drop 5).take 1 ++ cs.drop 6 from a6j cs 5 1, e2]
  rw [hd]
  rfl
def ok27 (l : List Bs) : Prop := l.length ≤ maxLen ∧ ∀ x ∈ l, x.length ≤ maxLen
theorem c9j (W : World) : b2o Tryz.prog W 27 (Rp.sl Rp.str) ok27 := b3w Tryz.underlying27 (r := Rp.str) (by rw [cells9]; rfl) (by decide) (c4i W)
def ok28 (l : List Int) : Prop := l.length ≤ maxLen ∧ ∀ x ∈ l, (IntKind.i64.min ≤ x ∧ x ≤ IntKind.i64.max)
theorem c6h (W : World) : b2o Tryz.prog W 28 (Rp.sl (Rp.int .i64)) ok28 := b3w Tryz.underlying28 (r := (Rp.int .i64)) (by rw [cells3]; rfl) (by decide) (b7r W)
theorem cells28 : Tryz.prog.cellsOf 28 = 1 := by kernel_rfl
theorem cells30 : Tryz.prog.cellsOf 30 = 3 := by kernel_rfl
def ok30 (x : M.Facts) : Prop := ok28 x.Lifts ∧ (IntKind.i64.min ≤ x.Persons ∧ x.Persons ≤ IntKind.i64.max) ∧ (IntKind.i64.min ≤ x.Flats ∧ x.Flats ≤ IntKind.i64.max)
set_option maxRecDepth 100000 in
theorem c9n (W : World) : b2o Tryz.prog W 30 M.rp_Facts ok30 := by
  intro H enc fuel cs x h
  obtain ⟨xs, n, _, _, hl, hn, hf⟩ := DataW.trod_struct Tryz.underlying30 h
  obtain ⟨y0, r0, o0⟩ := a7a hn hf (i := 0) rfl (c6h W)
  obtain ⟨a0_0, n0_0, c0_0, e0', s0_0⟩ := r0
  have e0 : (cs.drop 0).take (Tryz.prog.cellsOf 28) = [.slice a0_0 n0_0 c0_0] := e0'
  rw [cells28] at e0
  obtain ⟨y1, r1, o1⟩ := a7a hn hf (i := 1) rfl (b7r W)
  have e1' := r1
  have e1 : (cs.drop 1).take (Tryz.prog.cellsOf 3) = [.int .i64 y1] := e1'
  rw [cells3] at e1
  obtain ⟨y2, r2, o2⟩ := a7a hn hf (i := 2) rfl (b7r W)
  have e2' := r2
  have e2 : (cs.drop 2).take (Tryz.prog.cellsOf 3) = [.int .i64 y2] := e2'
  rw [cells3] at e2
  rw [cells30] at hl
  refine ⟨⟨y0, y1, y2⟩, ⟨a0_0, n0_0, c0_0, ?_, s0_0⟩, o0, o1, o2⟩
  show cs = _
  have hd : cs.drop 3 = [] := List.drop_of_length_le (by omega)
  have h0 : cs = cs.drop 0 := (List.drop_zero).symm
  rw [h0]
  rw [show cs.drop 0 = (cs.drop 0).take 1 ++ cs.drop 1 from a6j cs 0 1, e0]
  rw [show cs.drop 1 = (cs.drop 1).take 1 ++ cs.drop 2 from a6j cs 1 1, e1]
  rw [show cs.drop 2 = (cs.drop 2).take 1 ++ cs.drop 3 from a6j cs 2 1, e2]
  rw [hd]
  rfl
theorem cells35 : Tryz.prog.cellsOf 35 = 2 := by kernel_rfl
def ok35 (x : M.Big) : Prop := (IntKind.i64.min ≤ x.Sign ∧ x.Sign ≤ IntKind.i64.max) ∧ ok28 x.Digits
set_option maxRecDepth 100000 in
theorem c4e (W : World) : b2o Tryz.prog W 35 M.rp_Big ok35 := by
  intro H enc fuel cs x h
  obtain ⟨xs, n, _, _, hl, hn, hf⟩ := DataW.trod_struct Tryz.underlying35 h
  obtain ⟨y0, r0, o0⟩ := a7a hn hf (i := 0) rfl (b7r W)
  have e0' := r0
  have e0 : (cs.drop 0).take (Tryz.prog.cellsOf 3) = [.int .i64 y0] := e0'
  rw [cells3] at e0
  obtain ⟨y1, r1, o1⟩ := a7a hn hf (i := 1) rfl (c6h W)
  obtain ⟨a1_0, n1_0, c1_0, e1', s1_0⟩ := r1
  have e1 : (cs.drop 1).take (Tryz.prog.cellsOf 28) = [.slice a1_0 n1_0 c1_0] := e1'
  rw [cells28] at e1
  rw [cells35] at hl
  refine ⟨⟨y0, y1⟩, ⟨a1_0, n1_0, c1_0, ?_, s1_0⟩, o0, o1⟩
  show cs = _
  have hd : cs.drop 2 = [] := List.drop_of_length_le (by omega)
  have h0 : cs = cs.drop 0 := (List.drop_zero).symm
  rw [h0]
  rw [show cs.drop 0 = (cs.drop 0).take 1 ++ cs.drop 1 from a6j cs 0 1, e0]
  rw [show cs.drop 1 = (cs.drop 1).take 1 ++ cs.drop 2 from a6j cs 1 1, e1]
  rw [hd]
  rfl
theorem cells37 : Tryz.prog.cellsOf 37 = 4 := by kernel_rfl
def ok37 (x : M.Frac) : Prop := ok35 x.P ∧ ok35 x.Q
set_option maxRecDepth 100000 in
theorem c6k (W : World) : b2o Tryz.prog W 37 M.rp_Frac ok37 := by
  intro H enc fuel cs x h
  obtain ⟨xs, n, _, _, hl, hn, hf⟩ := DataW.trod_struct Tryz.underlying37 h
  obtain ⟨y0, r0, o0⟩ := a7a hn hf (i := 0) rfl (c4e W)
  obtain ⟨a0_1, n0_1, c0_1, e0', s0_1⟩ := r0
  have e0 : (cs.drop 0).take (Tryz.prog.cellsOf 35) = [.int .i64 y0.Sign, .slice a0_1 n0_1 c0_1] := e0'
  rw [cells35] at e0
  obtain ⟨y1, r1, o1⟩ := a7a hn hf (i := 1) rfl (c4e W)
  obtain ⟨a1_1, n1_1, c1_1, e1', s1_1⟩ := r1
  have e1 : (cs.drop 2).take (Tryz.prog.cellsOf 35) = [.int .i64 y1.Sign, .slice a1_1 n1_1 c1_1] := e1'
  rw [cells35] at e1
  rw [cells37] at hl
  refine ⟨⟨y0, y1⟩, ⟨a0_1, n0_1, c0_1, a1_1, n1_1, c1_1, ?_, s0_1, s1_1⟩, o0, o1⟩
  show cs = _
  have hd : cs.drop 4 = [] := List.drop_of_length_le (by omega)
  have h0 : cs = cs.drop 0 := (List.drop_zero).symm
  rw [h0]
  rw [show cs.drop 0 = (cs.drop 0).take 2 ++ cs.drop 2 from a6j cs 0 2, e0]
  rw [show cs.drop 2 = (cs.drop 2).take 2 ++ cs.drop 4 from a6j cs 2 2, e1]
  rw [hd]
  rfl
def ok31 (l : List M.Frac) : Prop := l.length ≤ maxLen ∧ ∀ x ∈ l, ok37 x
theorem c6q (W : World) : b2o Tryz.prog W 31 (Rp.sl M.rp_Frac) ok31 := b3w Tryz.underlying31 (r := M.rp_Frac) (by rw [cells37]; rfl) (by decide) (c6k W)
def tabs : List (String × DataW Unit) := []
noncomputable def b7y (os : Os) : World :=
  { World.holding Tryz.prog os ⟨#[], #[], []⟩ with heap := (World.holding Tryz.prog os ⟨#[], #[], []⟩).heap }
theorem c8c (os : Os) (args : Array Value) : laidMet Tryz.prog tabs ((b7y os).forCall (fun _ _ => 0) ⟨#[], args, []⟩).memory :=
  laidMet_of_run' 8 (by kernel_rfl) (by kernel_rfl)
end Go.Proofs.YtknpjecpcmajiaaGreat.Wrap

namespace Go.Proofs.YtknpjecpcmajiaaGreat.M
open Go Go.RowKit Rt
theorem ent17 : Ent Tryz.prog 17 := fun _ _ => by kernel_rfl
theorem ent29 : Ent Tryz.prog 29 := fun _ _ => by kernel_rfl
theorem ent28 : Ent Tryz.prog 28 := fun _ _ => by kernel_rfl
theorem ent27 : Ent Tryz.prog 27 := fun _ _ => by kernel_rfl
theorem ent30 : Ent Tryz.prog 30 := fun _ _ => by kernel_rfl
theorem ent10 : Ent Tryz.prog 10 := fun _ _ => by kernel_rfl
theorem ent12 : Ent Tryz.prog 12 := fun _ _ => by kernel_rfl
def b0b (n : Nat)  : Option Bool :=
 (b1t n 12345 2).bind fun v1 =>
 (b1t n 2469 400).bind fun v2 =>
 (a8k n 100).bind fun v3 =>
 ((a6w n 1000).bind fun v37 =>
 (a8c n (⟨4, 0, [112, 97, 112, 101, 114], []⟩ : Expr) v37).bind fun v38 =>
 (a7e n 8 v38).bind fun v39 =>
 (a9b n v39 [v1.1, v3]).bind fun v40 =>
 some (v40.1.P.Sign, v40.1.P.Digits, v40.1.Q.Sign, v40.1.Q.Digits, v40.2)).bind fun (f1, f2, f3, f4, ex1) =>
 ((a6w n 1000).bind fun v32 =>
 (a8c n v32 (⟨2, 0, [], []⟩ : Expr)).bind fun v33 =>
 (a7e n 7 v33).bind fun v34 =>
 (a8c n (⟨4, 0, [112, 97, 112, 101, 114], []⟩ : Expr) v34).bind fun v35 =>
 (a7e n 9 v35).bind fun v36 =>
 some (v36.Op, v36.N, v36.Name, v36.Args)).bind fun (f5, f6, f7, f8) =>
 (a8c n (⟨f5, f6, f7, f8⟩ : Expr) (⟨1, 0, [112, 97, 112, 101, 114], []⟩ : Expr)).bind fun v4 =>
 (a7e n 5 v4).bind fun v5 =>
 (a9b n v5 [v1.1, v3]).bind fun v6 =>
 (a6w n 2).bind fun v7 =>
 (a8c n v7 (⟨4, 0, [103, 108, 97, 115, 115], []⟩ : Expr)).bind fun v8 =>
 (a7e n 6 v8).bind fun v9 =>
 ((a6w n 3).bind fun v27 =>
 (a8c n (⟨2, 0, [], []⟩ : Expr) v27).bind fun v28 =>
 (a7e n 12 v28).bind fun v29 =>
 (a6w n 1).bind fun v30 =>
 (a7e n 11 [v29, v30, v9]).bind fun v31 =>
 some (v31.Op, v31.N, v31.Name, v31.Args)).bind fun (f9, f10, f11, f12) =>
 (a9b n (⟨f9, f10, f11, f12⟩ : Expr) [v1.1, v3]).bind fun v10 =>
 (b5g n (⟨[97], (⟨f9, f10, f11, f12⟩ : Expr), 5⟩ : Tariff) [[112, 97, 112, 101, 114], [103, 108, 97, 115, 115]] (⟨[4, 0], 3, 1⟩ : Facts) [v1.1, v3]).bind fun v11 =>
 (a9b n (⟨4, 0, [116, 105, 110], []⟩ : Expr) [v1.1, v3]).bind fun v12 =>
 (bif ex1 != 0 then
  some true
 else
  some (v6.2 != 0)).bind fun v13 =>
 (bif v13 then
  some true
 else
  some (v10.2 != 0)).bind fun v14 =>
 (bif v14 then
  some true
 else
  some (v11.2 != 0)).bind fun v15 =>
 (bif v15 then
  some true
 else
  some (v12.2 != 11)).bind fun v16 =>
 bif v16 then
  some false
 else
  (a5b n (⟨(⟨f1, f2⟩ : Big), (⟨f3, f4⟩ : Big)⟩ : Frac) v2.1).bind fun v17 =>
  (bif v17 then
   (a8k n 3004).bind fun v25 =>
   (a5b n v6.1 v25).bind fun v26 =>
   some v26
  else
   some false).bind fun v18 =>
  (bif v18 then
   (a8k n (-98)).bind fun v23 =>
   (a5b n v10.1 v23).bind fun v24 =>
   some v24
  else
   some false).bind fun v19 =>
  (bif v19 then
   (a8k n 0).bind fun v21 =>
   (a5b n v11.1 v21).bind fun v22 =>
   some v22
  else
   some false).bind fun v20 =>
  some v20
set_option maxHeartbeats 1000000 in
set_option maxRecDepth 1000000 in
theorem b8g (n : Nat)  (r : Bool) (hm : b0b n  = some r) {w : World} {F : Frz} (hs : Sat F w)  :
  Calls Tryz.prog 6 #[] w fun e w' => ∃ v F' O', e = .returned v ∧ HS F w [] F' O' w' ∧ (v = .bool r ∧ O' = []) := by
 unfold b0b at hm
 have h := HS.init hs
 refine a1a 129 Tryz.func6 rfl rfl rfl ?_
 refine a0f (a0a (a0b rfl rfl rfl (a0c (a0d (a0f (a0a ?_))))))
 obtain ⟨v1, hv1, hm⟩ := bind_some hm
 refine a0i ent26 rfl rfl rfl rfl h (b4a _ _ _ _ hv1 h.sat) ?_
 rintro _ Fx1 _ wx1 hF1 hx1 ⟨as1, ns1, cs1, as2, ns2, cs2, rfl, rfl, hs1, hs2⟩
 refine a0e rfl rfl rfl (a0k rfl rfl rfl rfl (a0k rfl rfl rfl rfl ?_))
 refine a1f ze37 rfl rfl rfl hx1 ?_
 intro b1 wx2 hx2
 refine a0q sz37 rfl hx2 rfl rfl rfl rfl (i := 0) rfl rfl rfl rfl ?_
 intro wx3 hx3
 refine a0b rfl rfl rfl (a0c (a0d (a0f (a0a ?_))))
 obtain ⟨v2, hv2, hm⟩ := bind_some hm
 refine a0i ent26 rfl rfl rfl rfl hx3 (b4a _ _ _ _ hv2 hx3.sat) ?_
 rintro _ Fx2 _ wx4 hF2 hx4 ⟨as3, ns3, cs3, as4, ns4, cs4, rfl, rfl, hs3, hs4⟩
 refine a0e rfl rfl rfl (a0k rfl rfl rfl rfl (a0k rfl rfl rfl rfl ?_))
 refine a1f ze37 rfl rfl rfl hx4 ?_
 intro b2 wx5 hx5
 refine a0q sz37 rfl hx5 rfl rfl rfl rfl (i := 0) rfl rfl rfl rfl ?_
 intro wx6 hx6
 refine a0b rfl rfl rfl (a0c (a0d (a0f ?_)))
 refine a2j (SH Fx2 [.box b2 37 [.int .i64 v2.1.P.Sign, .slice as3 ns3 cs3, .int .i64 v2.1.Q.Sign, .slice as4 ns4 cs4], .box b1 37 [.int .i64 v1.1.P.Sign, .slice as1 ns1 cs1, .int .i64 v1.1.Q.Sign, .slice as2 ns2 cs2]]) 4 rfl (by kernel_rfl) hx6 ?_
 intro wx7 hx7
 refine d_tk 0 rfl (by kernel_rfl) rfl rfl rfl rfl (hx7.sh (Frz.refl _) [0, 1] (by decide) rfl) (fun _ _ _ _ hq => a0l ag37 sz37 rfl rfl hq rfl (i := 1) rfl rfl (a0c (qq rfl))) ?_
 refine a0y 1 rfl (by kernel_rfl) ?_
 obtain ⟨v3, hv3, hm⟩ := bind_some hm
 refine a0i ent17 rfl rfl rfl rfl hx7 (a9o _ _ _ hv3 hx7.sat) ?_
 rintro _ Fx3 _ wx8 hF3 hx8 ⟨as5, ns5, cs5, as6, ns6, cs6, rfl, rfl, hs5, hs6⟩
 refine a0r (hx8.sh hF3 [0, 1] (by decide) rfl) ?_
 refine a0y 2 rfl (by kernel_rfl) ?_
 refine a1p (e := 37) (cs := [.int .i64 v1.1.P.Sign, .slice as1 ns1 cs1, .int .i64 v1.1.Q.Sign, .slice as2 ns2 cs2, .int .i64 v3.P.Sign, .slice as5 ns5 cs5, .int .i64 v3.Q.Sign, .slice as6 ns6 cs6]) (q := 4) rfl rfl hx8 rfl (fun _ => by kernel_rfl) rfl rfl ?_
 intro b3 wx9 hx9
 refine a0r (hx9.sh hF3 [1, 2] (by decide) rfl) ?_
 refine d_tk 3 rfl (by kernel_rfl) rfl rfl rfl rfl (hx9.sh hF3 [1, 2] (by decide) rfl) (fun _ _ _ _ _ => a0b rfl rfl rfl (a0c (qq rfl))) ?_
 refine a2u (by kernel_rfl) ?_
 refine a0d (a0f (a0a ?_))
 refine a2c (v := .agg #[.int .i64 4, .int .i64 0, vs [112, 97, 112, 101, 114], .slice none 0 0]) rfl rfl rfl (fun _ => by kernel_rfl) ?_
 refine a1f ze24 rfl rfl rfl hx9 ?_
 intro b4 wx10 hx10
 refine a0q sz24 rfl hx10 rfl rfl rfl rfl (i := 0) rfl rfl rfl rfl ?_
 intro wx11 hx11
 refine a0c (a0d (a0f (a0a ?_)))
 refine a2c (v := .agg #[.int .i64 2, .int .i64 0, vs [], .slice none 0 0]) rfl rfl rfl (fun _ => by kernel_rfl) ?_
 refine a1f ze24 rfl rfl rfl hx11 ?_
 intro b5 wx12 hx12
 refine a0q sz24 rfl hx12 rfl rfl rfl rfl (i := 0) rfl rfl rfl rfl ?_
 intro wx13 hx13
 refine a0c (a0d ?_)
 obtain ⟨Fx4, hF4, hx14, hsx1⟩ := a1b hx13 (i := 2) rfl ((show RowN rp_Frac Fx3 2 [.int .i64 v1.1.P.Sign, .slice as1 ns1 cs1, .int .i64 v1.1.Q.Sign, .slice as2 ns2 cs2, .int .i64 v3.P.Sign, .slice as5 ns5 cs5, .int .i64 v3.Q.Sign, .slice as6 ns6 cs6] [v1.1, v3] from ⟨rfl, ⟨_, _, rfl, ⟨as1, ns1, cs1, as2, ns2, cs2, rfl, ((hs1.mono hF2).mono hF3), ((hs2.mono hF2).mono hF3)⟩, ⟨_, _, rfl, ⟨as5, ns5, cs5, as6, ns6, cs6, rfl, hs5, hs6⟩, (rfl : RowR rp_Frac _ [] [])⟩⟩⟩))
 obtain ⟨⟨f1, f2, f3, f4, ex1⟩, hb1, hm⟩ := bind_some hm
 refine c4c (fun a w' => ∃ (Fx5 : Frz) (b6 : Nat) (as7 : Option Addr) (ns7 : Nat) (cs7 : Nat) (as8 : Option Addr) (ns8 : Nat) (cs8 : Nat), Frz.le Fx4 Fx5 ∧ HS F w [] Fx5 [.box b6 37 [.int .i64 f1, .slice as7 ns7 cs7, .int .i64 f3, .slice as8 ns8 cs8], .box b5 24 [.int .i64 2, .int .i64 0, vs [], .slice none 0 0], .box b4 24 [.int .i64 4, .int .i64 0, vs [112, 97, 112, 101, 114], .slice none 0 0], .box b2 37 [.int .i64 v2.1.P.Sign, .slice as3 ns3 cs3, .int .i64 v2.1.Q.Sign, .slice as4 ns4 cs4], .box b1 37 [.int .i64 v1.1.P.Sign, .slice as1 ns1 cs1, .int .i64 v1.1.Q.Sign, .slice as2 ns2 cs2]] w' ∧ (SlR (Rp.int .i64) Fx5 as7 ns7 cs7 f2) ∧ (SlR (Rp.int .i64) Fx5 as8 ns8 cs8 f4) ∧ Has 129 a [(3, .pointer (some ⟨b2, 0, none⟩)), (5, .slice (some ⟨b3, 0, none⟩) 2 2), (6, .pointer (some ⟨b4, 0, none⟩)), (7, .pointer (some ⟨b5, 0, none⟩)), (8, .pointer (some ⟨b6, 0, none⟩)), (9, .int .i64 ex1)]) ?_ ?_
 ·rintro a wx14 ⟨Fx5, b6, as7, ns7, cs7, as8, ns8, cs8, hF5, hx15, hs7, hs8, hax1⟩
  refine a1l hax1 ?_
  obtain ⟨⟨f5, f6, f7, f8⟩, hb2, hm⟩ := bind_some hm
  refine c4c (fun a w' => ∃ (Fx6 : Frz) (b7 : Nat) (as9 : Option Addr) (ns9 : Nat) (cs9 : Nat), Frz.le Fx5 Fx6 ∧ HS F w [] Fx6 [.box b7 24 [.int .i64 f5, .int .i64 f6, vs f7, .slice as9 ns9 cs9], .box b6 37 [.int .i64 f1, .slice as7 ns7 cs7, .int .i64 f3, .slice as8 ns8 cs8], .box b5 24 [.int .i64 2, .int .i64 0, vs [], .slice none 0 0], .box b4 24 [.int .i64 4, .int .i64 0, vs [112, 97, 112, 101, 114], .slice none 0 0], .box b2 37 [.int .i64 v2.1.P.Sign, .slice as3 ns3 cs3, .int .i64 v2.1.Q.Sign, .slice as4 ns4 cs4], .box b1 37 [.int .i64 v1.1.P.Sign, .slice as1 ns1 cs1, .int .i64 v1.1.Q.Sign, .slice as2 ns2 cs2]] w' ∧ (SlR rp_Expr Fx6 as9 ns9 cs9 f8) ∧ Has 129 a [(3, .pointer (some ⟨b2, 0, none⟩)), (5, .slice (some ⟨b3, 0, none⟩) 2 2), (7, .pointer (some ⟨b5, 0, none⟩)), (8, .pointer (some ⟨b6, 0, none⟩)), (9, .int .i64 ex1), (10, .pointer (some ⟨b7, 0, none⟩))]) ?_ ?_
  ·rintro a wx15 ⟨Fx6, b7, as9, ns9, cs9, hF6, hx16, hs9, hax2⟩
   refine a1l hax2 ?_
   refine a0f (a0a ?_)
   refine a0l ag24 sz24 rfl rfl hx16 rfl (i := 0) rfl rfl ?_
   refine a2c (v := .agg #[.int .i64 1, .int .i64 0, vs [112, 97, 112, 101, 114], .slice none 0 0]) rfl rfl rfl (fun _ => by kernel_rfl) ?_
   obtain ⟨v4, hv4, hm⟩ := bind_some hm
   refine a0i ent29 rfl rfl rfl rfl hx16 (a2s _ _ _ _ hv4 hx16.sat hs9 (SlR.nil _ _)) ?_
   rintro _ Fx7 _ wx16 hF7 hx17 ⟨as10, ns10, cs10, xss10, rfl, rfl, hs10⟩
   obtain ⟨Fx8, hF8, hx18, hsx2⟩ := a1b hx17 (i := 0) rfl hs10
   obtain ⟨v5, hv5, hm⟩ := bind_some hm
   refine a0i ent28 rfl rfl rfl rfl hx18 (a1r _ _ _ _ hv5 hx18.sat hsx2) ?_
   rintro _ Fx9 _ wx17 hF9 hx19 ⟨as11, ns11, cs11, rfl, rfl, hs11⟩
   refine a0e rfl rfl rfl ?_
   have hG1 := (((hF5.trans hF6).trans hF7).trans hF8).trans hF9
   obtain ⟨v6, hv6, hm⟩ := bind_some hm
   refine a0i ent27 rfl rfl rfl rfl hx19 (a4z _ _ _ _ hv6 hx19.sat hs11 (hsx1.mono hG1)) ?_
   rintro _ Fx10 _ wx18 hF10 hx20 ⟨as12, ns12, cs12, as13, ns13, cs13, rfl, rfl, hs12, hs13⟩
   refine a0e rfl rfl rfl (a0k rfl rfl rfl rfl (a0k rfl rfl rfl rfl ?_))
   refine a1f ze37 rfl rfl rfl hx20 ?_
   intro b8 wx19 hx21
   refine a0q sz37 rfl hx21 rfl rfl rfl rfl (i := 0) rfl rfl rfl rfl ?_
   intro wx20 hx22
   refine a0b rfl rfl rfl (a0c (a0d (a0f (a0a ?_))))
   obtain ⟨v7, hv7, hm⟩ := bind_some hm
   refine a0i ent30 rfl rfl rfl rfl hx22 (a2z _ _ _ hv7 hx22.sat) ?_
   rintro _ Fx11 _ wx21 hF11 hx23 ⟨as14, ns14, cs14, rfl, rfl, hs14⟩
   refine a2c (v := .agg #[.int .i64 4, .int .i64 0, vs [103, 108, 97, 115, 115], .slice none 0 0]) rfl rfl rfl (fun _ => by kernel_rfl) ?_
   obtain ⟨v8, hv8, hm⟩ := bind_some hm
   refine a0i ent29 rfl rfl rfl rfl hx23 (a2s _ _ _ _ hv8 hx23.sat hs14 (SlR.nil _ _)) ?_
   rintro _ Fx12 _ wx22 hF12 hx24 ⟨as15, ns15, cs15, xss15, rfl, rfl, hs15⟩
   obtain ⟨Fx13, hF13, hx25, hsx3⟩ := a1b hx24 (i := 0) rfl hs15
   obtain ⟨v9, hv9, hm⟩ := bind_some hm
   refine a0i ent28 rfl rfl rfl rfl hx25 (a1r _ _ _ _ hv9 hx25.sat hsx3) ?_
   rintro _ Fx14 _ wx23 hF14 hx26 ⟨as16, ns16, cs16, rfl, rfl, hs16⟩
   refine a1f ze24 rfl rfl rfl hx26 ?_
   intro b9 wx24 hx27
   refine a0q sz24 rfl hx27 rfl rfl rfl rfl (i := 0) rfl rfl rfl rfl ?_
   intro wx25 hx28
   refine a0c (a0d ?_)
   obtain ⟨⟨f9, f10, f11, f12⟩, hb3, hm⟩ := bind_some hm
   refine c4c (fun a w' => ∃ (Fx15 : Frz) (b10 : Nat) (as17 : Option Addr) (ns17 : Nat) (cs17 : Nat), Frz.le Fx14 Fx15 ∧ HS F w [] Fx15 [.box b10 24 [.int .i64 f9, .int .i64 f10, vs f11, .slice as17 ns17 cs17], .box b9 24 [.int .i64 v9.Op, .int .i64 v9.N, vs v9.Name, .slice as16 ns16 cs16], .box b8 37 [.int .i64 v6.1.P.Sign, .slice as12 ns12 cs12, .int .i64 v6.1.Q.Sign, .slice as13 ns13 cs13], .box b7 24 [.int .i64 f5, .int .i64 f6, vs f7, .slice as9 ns9 cs9], .box b6 37 [.int .i64 f1, .slice as7 ns7 cs7, .int .i64 f3, .slice as8 ns8 cs8], .box b5 24 [.int .i64 2, .int .i64 0, vs [], .slice none 0 0], .box b4 24 [.int .i64 4, .int .i64 0, vs [112, 97, 112, 101, 114], .slice none 0 0], .box b2 37 [.int .i64 v2.1.P.Sign, .slice as3 ns3 cs3, .int .i64 v2.1.Q.Sign, .slice as4 ns4 cs4], .box b1 37 [.int .i64 v1.1.P.Sign, .slice as1 ns1 cs1, .int .i64 v1.1.Q.Sign, .slice as2 ns2 cs2]] w' ∧ (SlR rp_Expr Fx15 as17 ns17 cs17 f12) ∧ Has 129 a [(3, .pointer (some ⟨b2, 0, none⟩)), (5, .slice (some ⟨b3, 0, none⟩) 2 2), (8, .pointer (some ⟨b6, 0, none⟩)), (9, .int .i64 ex1), (11, .pointer (some ⟨b8, 0, none⟩)), (12, .int .i64 v6.2), (14, .pointer (some ⟨b10, 0, none⟩))]) ?_ ?_
   ·rintro a wx26 ⟨Fx15, b10, as17, ns17, cs17, hF15, hx29, hs17, hax3⟩
    refine a1l hax3 ?_
    refine a0f (a0a ?_)
    refine a0l ag24 sz24 rfl rfl hx29 rfl (i := 0) rfl rfl ?_
    refine a0e rfl rfl rfl ?_
    have hG2 := (((((hG1.trans hF10).trans hF11).trans hF12).trans hF13).trans hF14).trans hF15
    obtain ⟨v10, hv10, hm⟩ := bind_some hm
    refine a0i ent27 rfl rfl rfl rfl hx29 (a4z _ _ _ _ hv10 hx29.sat hs17 (hsx1.mono hG2)) ?_
    rintro _ Fx16 _ wx27 hF16 hx30 ⟨as18, ns18, cs18, as19, ns19, cs19, rfl, rfl, hs18, hs19⟩
    refine a0e rfl rfl rfl (a0k rfl rfl rfl rfl (a0k rfl rfl rfl rfl ?_))
    refine a1f ze37 rfl rfl rfl hx30 ?_
    intro b11 wx28 hx31
    refine a0q sz37 rfl hx31 rfl rfl rfl rfl (i := 0) rfl rfl rfl rfl ?_
    intro wx29 hx32
    refine a0b rfl rfl rfl (a0c (a0d (a0f (a0a ?_))))
    refine a0l ag24 sz24 rfl rfl hx32 rfl (i := 1) rfl rfl ?_
    refine a2c (v := .agg #[vs [97], .int .i64 f9, .int .i64 f10, vs f11, .slice as17 ns17 cs17, .int .i64 5]) rfl rfl rfl (fun _ => by kernel_rfl) ?_
    refine a1p (e := 9) (cs := [vs [112, 97, 112, 101, 114], vs [103, 108, 97, 115, 115]]) (q := 1) rfl rfl hx32 rfl (fun _ => by kernel_rfl) rfl rfl ?_
    intro b12 wx30 hx33
    refine a1p (e := 3) (cs := [.int .i64 4, .int .i64 0]) (q := 1) rfl rfl hx33 rfl (fun _ => by kernel_rfl) rfl rfl ?_
    intro b13 wx31 hx34
    obtain ⟨Fx17, hF17, hx35, hsx4⟩ := a1b hx34 (i := 0) rfl ((show RowN (Rp.int .i64) Fx16 2 [.int .i64 4, .int .i64 0] [4, 0] from ⟨rfl, ⟨_, _, rfl, rfl, ⟨_, _, rfl, rfl, (rfl : RowR (Rp.int .i64) _ [] [])⟩⟩⟩))
    refine a2c (v := .agg #[.slice (some ⟨b13, 0, none⟩) 2 2, .int .i64 3, .int .i64 1]) rfl rfl rfl (fun _ => by kernel_rfl) ?_
    refine a0e rfl rfl rfl ?_
    obtain ⟨Fx18, hF18, hx36, hsx5⟩ := a1b hx35 (i := 0) rfl ((show RowN Rp.str Fx16 2 [vs [112, 97, 112, 101, 114], vs [103, 108, 97, 115, 115]] [[112, 97, 112, 101, 114], [103, 108, 97, 115, 115]] from ⟨rfl, ⟨_, _, rfl, rfl, ⟨_, _, rfl, rfl, (rfl : RowR Rp.str _ [] [])⟩⟩⟩).mono hF17)
    obtain ⟨v11, hv11, hm⟩ := bind_some hm
    refine a0i ent10 rfl rfl rfl rfl hx36 (b9r _ _ _ _ _ _ hv11 hx36.sat (((hs17.mono hF16).mono hF17).mono hF18) hsx5 (hsx4.mono hF18) ((((hsx1.mono hG2).mono hF16).mono hF17).mono hF18)) ?_
    rintro _ Fx19 _ wx32 hF19 hx37 ⟨as20, ns20, cs20, as21, ns21, cs21, rfl, rfl, hs20, hs21⟩
    refine a0e rfl rfl rfl (a0k rfl rfl rfl rfl (a0k rfl rfl rfl rfl ?_))
    refine a1f ze37 rfl rfl rfl hx37 ?_
    intro b14 wx33 hx38
    refine a0q sz37 rfl hx38 rfl rfl rfl rfl (i := 0) rfl rfl rfl rfl ?_
    intro wx34 hx39
    refine a0b rfl rfl rfl (a0c (a0d (a0f (a0a ?_))))
    refine a2c (v := .agg #[.int .i64 4, .int .i64 0, vs [116, 105, 110], .slice none 0 0]) rfl rfl rfl (fun _ => by kernel_rfl) ?_
    refine a0e rfl rfl rfl ?_
    have hG3 := (((hG2.trans hF16).trans hF17).trans hF18).trans hF19
    obtain ⟨v12, hv12, hm⟩ := bind_some hm
    refine a0i ent27 rfl rfl rfl rfl hx39 (a4z _ _ _ _ hv12 hx39.sat (SlR.nil _ _) (hsx1.mono hG3)) ?_
    rintro _ Fx20 _ wx35 hF20 hx40 ⟨as22, ns22, cs22, as23, ns23, cs23, rfl, rfl, hs22, hs23⟩
    refine a0e rfl rfl rfl (a0k rfl rfl rfl rfl (a0k rfl rfl rfl rfl ?_))
    refine a1f ze37 rfl rfl rfl hx40 ?_
    intro b15 wx36 hx41
    refine a0q sz37 rfl hx41 rfl rfl rfl rfl (i := 0) rfl rfl rfl rfl ?_
    intro wx37 hx42
    refine a0b rfl rfl rfl (a0c (a0d (a0f (a0f (a0a (a0e rfl rfl rfl ?_))))))
    refine a0u rfl rfl rfl rfl rfl ?_
    refine a0e rfl rfl rfl ?_
    obtain ⟨v13, hb4, hm⟩ := bind_some hm
    refine a2n 3 (fun a w' => wx37 = w' ∧ Has 129 a [(3, .pointer (some ⟨b2, 0, none⟩)), (8, .pointer (some ⟨b6, 0, none⟩)), (11, .pointer (some ⟨b8, 0, none⟩)), (15, .pointer (some ⟨b11, 0, none⟩)), (16, .int .i64 v10.2), (17, .pointer (some ⟨b14, 0, none⟩)), (18, .int .i64 v11.2), (20, .int .i64 v12.2), (98, .bool v13)]) ?_ ?_
    ·rintro a wx38 ⟨rfl, hax4⟩
     refine a1c hax4 ?_
     refine a0e rfl rfl rfl ?_
     obtain ⟨v14, hb5, hm⟩ := bind_some hm
     refine a2n 3 (fun a w' => wx37 = w' ∧ Has 129 a [(3, .pointer (some ⟨b2, 0, none⟩)), (8, .pointer (some ⟨b6, 0, none⟩)), (11, .pointer (some ⟨b8, 0, none⟩)), (15, .pointer (some ⟨b11, 0, none⟩)), (17, .pointer (some ⟨b14, 0, none⟩)), (18, .int .i64 v11.2), (20, .int .i64 v12.2), (102, .bool v14)]) ?_ ?_
     ·rintro a wx39 ⟨rfl, hax5⟩
      refine a1c hax5 ?_
      refine a0e rfl rfl rfl ?_
      obtain ⟨v15, hb6, hm⟩ := bind_some hm
      refine a2n 3 (fun a w' => wx37 = w' ∧ Has 129 a [(3, .pointer (some ⟨b2, 0, none⟩)), (8, .pointer (some ⟨b6, 0, none⟩)), (11, .pointer (some ⟨b8, 0, none⟩)), (15, .pointer (some ⟨b11, 0, none⟩)), (17, .pointer (some ⟨b14, 0, none⟩)), (20, .int .i64 v12.2), (106, .bool v15)]) ?_ ?_
      ·rintro a wx40 ⟨rfl, hax6⟩
       refine a1c hax6 ?_
       refine a0e rfl rfl rfl ?_
       obtain ⟨v16, hb7, hm⟩ := bind_some hm
       refine a2n 3 (fun a w' => wx37 = w' ∧ Has 129 a [(3, .pointer (some ⟨b2, 0, none⟩)), (8, .pointer (some ⟨b6, 0, none⟩)), (11, .pointer (some ⟨b8, 0, none⟩)), (15, .pointer (some ⟨b11, 0, none⟩)), (17, .pointer (some ⟨b14, 0, none⟩)), (110, .bool v16)]) ?_ ?_
       ·rintro a wx41 ⟨rfl, hax7⟩
        refine a1c hax7 ?_
        refine a0c (a0d ?_)
        rcases a0g hm with ⟨hb8, hm⟩ | ⟨hb8, hm⟩
        ·refine a0t 110 rfl hb8 ?_
         refine a0z rfl (a0f (a0a (a0b rfl rfl rfl (a0c (a0d (a1d (a0j ?_)))))))
         refine a1k rfl rfl ?_
         obtain rfl := Option.some.inj hm
         exact ⟨_, _, _, rfl, hx42.pick [] (by decide) rfl, rfl, rfl⟩
        ·refine a0t 110 rfl hb8 ?_
         refine a0s rfl (a1e (a0d (a0f ?_)))
         refine a2j (SH Fx20 [.box b15 37 [.int .i64 v12.1.P.Sign, .slice as22 ns22 cs22, .int .i64 v12.1.Q.Sign, .slice as23 ns23 cs23], .box b14 37 [.int .i64 v11.1.P.Sign, .slice as20 ns20 cs20, .int .i64 v11.1.Q.Sign, .slice as21 ns21 cs21], .box b11 37 [.int .i64 v10.1.P.Sign, .slice as18 ns18 cs18, .int .i64 v10.1.Q.Sign, .slice as19 ns19 cs19], .box b10 24 [.int .i64 f9, .int .i64 f10, vs f11, .slice as17 ns17 cs17], .box b9 24 [.int .i64 v9.Op, .int .i64 v9.N, vs v9.Name, .slice as16 ns16 cs16], .box b8 37 [.int .i64 v6.1.P.Sign, .slice as12 ns12 cs12, .int .i64 v6.1.Q.Sign, .slice as13 ns13 cs13], .box b7 24 [.int .i64 f5, .int .i64 f6, vs f7, .slice as9 ns9 cs9], .box b6 37 [.int .i64 f1, .slice as7 ns7 cs7, .int .i64 f3, .slice as8 ns8 cs8], .box b5 24 [.int .i64 2, .int .i64 0, vs [], .slice none 0 0], .box b4 24 [.int .i64 4, .int .i64 0, vs [112, 97, 112, 101, 114], .slice none 0 0], .box b2 37 [.int .i64 v2.1.P.Sign, .slice as3 ns3 cs3, .int .i64 v2.1.Q.Sign, .slice as4 ns4 cs4], .box b1 37 [.int .i64 v1.1.P.Sign, .slice as1 ns1 cs1, .int .i64 v1.1.Q.Sign, .slice as2 ns2 cs2]]) 19 rfl (by kernel_rfl) hx42 ?_
         intro wx42 hx43
         refine d_tk 0 rfl (by kernel_rfl) rfl rfl rfl rfl (hx43.sh (Frz.refl _) [0, 1, 2, 3, 4, 5, 6, 7, 8, 9, 10, 11] (by decide) rfl) (fun _ _ _ _ hq => a0l ag37 sz37 rfl rfl hq rfl (i := 7) rfl rfl (a0c (qq rfl))) ?_
         refine d_tk 1 rfl (by kernel_rfl) rfl rfl rfl rfl (hx43.sh (Frz.refl _) [0, 1, 2, 3, 4, 5, 6, 7, 8, 9, 10, 11] (by decide) rfl) (fun _ _ _ _ hq => a0l ag37 sz37 rfl rfl hq rfl (i := 10) rfl rfl (a0c (qq rfl))) ?_
         refine a0y 2 rfl (by kernel_rfl) ?_
         have hG4 := (((((((((((((hF6.trans hF7).trans hF8).trans hF9).trans hF10).trans hF11).trans hF12).trans hF13).trans hF14).trans hF15).trans hF16).trans hF17).trans hF18).trans hF19).trans hF20
         have hG5 := ((((((((((((((((hF3.trans hF4).trans hF5).trans hF6).trans hF7).trans hF8).trans hF9).trans hF10).trans hF11).trans hF12).trans hF13).trans hF14).trans hF15).trans hF16).trans hF17).trans hF18).trans hF19).trans hF20
         obtain ⟨v17, hv13, hm⟩ := bind_some hm
         refine a0i ent12 rfl rfl rfl rfl hx43 (a7f _ _ _ _ hv13 hx43.sat (hs7.mono hG4) (hs8.mono hG4) (hs3.mono hG5) (hs4.mono hG5)) ?_
         rintro _ Fx21 _ wx43 hF21 hx44 ⟨rfl, rfl⟩
         refine a0r (hx44.sh hF21 [0, 1, 2, 3, 4, 5, 6, 7, 8, 9, 10, 11] (by decide) rfl) ?_
         refine d_tk 3 rfl (by kernel_rfl) rfl rfl rfl rfl (hx44.sh hF21 [0, 1, 2, 3, 4, 5, 6, 7, 8, 9, 10, 11] (by decide) rfl) (fun _ _ _ _ _ => a0e rfl rfl rfl (a0c (qq rfl))) ?_
         obtain ⟨v18, hb9, hm⟩ := bind_some hm
         refine c0d (fuel' := 11) (listed' := #[true, true, true, true, true, true, true, true, false, false, false, false, false, false, false, false, false, false, false]) (fun a w' => ∃ (Fx22 : Frz), Frz.le Fx21 Fx22 ∧ HS F w [] Fx22 [.box b15 37 [.int .i64 v12.1.P.Sign, .slice as22 ns22 cs22, .int .i64 v12.1.Q.Sign, .slice as23 ns23 cs23], .box b14 37 [.int .i64 v11.1.P.Sign, .slice as20 ns20 cs20, .int .i64 v11.1.Q.Sign, .slice as21 ns21 cs21], .box b11 37 [.int .i64 v10.1.P.Sign, .slice as18 ns18 cs18, .int .i64 v10.1.Q.Sign, .slice as19 ns19 cs19], .box b10 24 [.int .i64 f9, .int .i64 f10, vs f11, .slice as17 ns17 cs17], .box b9 24 [.int .i64 v9.Op, .int .i64 v9.N, vs v9.Name, .slice as16 ns16 cs16], .box b8 37 [.int .i64 v6.1.P.Sign, .slice as12 ns12 cs12, .int .i64 v6.1.Q.Sign, .slice as13 ns13 cs13], .box b7 24 [.int .i64 f5, .int .i64 f6, vs f7, .slice as9 ns9 cs9], .box b6 37 [.int .i64 f1, .slice as7 ns7 cs7, .int .i64 f3, .slice as8 ns8 cs8], .box b5 24 [.int .i64 2, .int .i64 0, vs [], .slice none 0 0], .box b4 24 [.int .i64 4, .int .i64 0, vs [112, 97, 112, 101, 114], .slice none 0 0], .box b2 37 [.int .i64 v2.1.P.Sign, .slice as3 ns3 cs3, .int .i64 v2.1.Q.Sign, .slice as4 ns4 cs4], .box b1 37 [.int .i64 v1.1.P.Sign, .slice as1 ns1 cs1, .int .i64 v1.1.Q.Sign, .slice as2 ns2 cs2]] w' ∧ Has 129 a [(15, .pointer (some ⟨b11, 0, none⟩)), (17, .pointer (some ⟨b14, 0, none⟩)), (118, .bool v18)]) ?_ (fun hK1 => ?_)
         ·rintro a wx44 ⟨Fx22, hF22, hx45, hax8⟩
          refine a9z hax8 ?_
          refine d_tk 8 rfl (by kernel_rfl) rfl rfl rfl rfl (hx45.sh (hF21.trans hF22) [0, 1, 2, 3, 4, 5, 6, 7, 8, 9, 10, 11] (by decide) rfl) (fun _ _ _ _ _ => a0e rfl rfl rfl (a0c (qq rfl))) ?_
          obtain ⟨v19, hb10, hm⟩ := bind_some hm
          refine c0d (fuel' := 6) (listed' := #[true, true, true, true, true, true, true, true, true, true, true, true, true, false, false, false, false, false, false]) (fun a w' => ∃ (Fx23 : Frz), Frz.le Fx22 Fx23 ∧ HS F w [] Fx23 [.box b15 37 [.int .i64 v12.1.P.Sign, .slice as22 ns22 cs22, .int .i64 v12.1.Q.Sign, .slice as23 ns23 cs23], .box b14 37 [.int .i64 v11.1.P.Sign, .slice as20 ns20 cs20, .int .i64 v11.1.Q.Sign, .slice as21 ns21 cs21], .box b11 37 [.int .i64 v10.1.P.Sign, .slice as18 ns18 cs18, .int .i64 v10.1.Q.Sign, .slice as19 ns19 cs19], .box b10 24 [.int .i64 f9, .int .i64 f10, vs f11, .slice as17 ns17 cs17], .box b9 24 [.int .i64 v9.Op, .int .i64 v9.N, vs v9.Name, .slice as16 ns16 cs16], .box b8 37 [.int .i64 v6.1.P.Sign, .slice as12 ns12 cs12, .int .i64 v6.1.Q.Sign, .slice as13 ns13 cs13], .box b7 24 [.int .i64 f5, .int .i64 f6, vs f7, .slice as9 ns9 cs9], .box b6 37 [.int .i64 f1, .slice as7 ns7 cs7, .int .i64 f3, .slice as8 ns8 cs8], .box b5 24 [.int .i64 2, .int .i64 0, vs [], .slice none 0 0], .box b4 24 [.int .i64 4, .int .i64 0, vs [112, 97, 112, 101, 114], .slice none 0 0], .box b2 37 [.int .i64 v2.1.P.Sign, .slice as3 ns3 cs3, .int .i64 v2.1.Q.Sign, .slice as4 ns4 cs4], .box b1 37 [.int .i64 v1.1.P.Sign, .slice as1 ns1 cs1, .int .i64 v1.1.Q.Sign, .slice as2 ns2 cs2]] w' ∧ Has 129 a [(17, .pointer (some ⟨b14, 0, none⟩)), (123, .bool v19)]) ?_ (fun hK2 => ?_)
          ·rintro a wx45 ⟨Fx23, hF23, hx46, hax9⟩
           refine a9z hax9 ?_
           refine d_tk 13 rfl (by kernel_rfl) rfl rfl rfl rfl (hx46.sh ((hF21.trans hF22).trans hF23) [0, 1, 2, 3, 4, 5, 6, 7, 8, 9, 10, 11] (by decide) rfl) (fun _ _ _ _ _ => a0e rfl rfl rfl (a0c (qq rfl))) ?_
           obtain ⟨v20, hb11, hm⟩ := bind_some hm
           refine c0d (fuel' := 1) (listed' := #[true, true, true, true, true, true, true, true, true, true, true, true, true, true, true, true, true, true, false]) (fun a w' => ∃ (Fx24 : Frz), Frz.le Fx23 Fx24 ∧ HS F w [] Fx24 [.box b15 37 [.int .i64 v12.1.P.Sign, .slice as22 ns22 cs22, .int .i64 v12.1.Q.Sign, .slice as23 ns23 cs23], .box b14 37 [.int .i64 v11.1.P.Sign, .slice as20 ns20 cs20, .int .i64 v11.1.Q.Sign, .slice as21 ns21 cs21], .box b11 37 [.int .i64 v10.1.P.Sign, .slice as18 ns18 cs18, .int .i64 v10.1.Q.Sign, .slice as19 ns19 cs19], .box b10 24 [.int .i64 f9, .int .i64 f10, vs f11, .slice as17 ns17 cs17], .box b9 24 [.int .i64 v9.Op, .int .i64 v9.N, vs v9.Name, .slice as16 ns16 cs16], .box b8 37 [.int .i64 v6.1.P.Sign, .slice as12 ns12 cs12, .int .i64 v6.1.Q.Sign, .slice as13 ns13 cs13], .box b7 24 [.int .i64 f5, .int .i64 f6, vs f7, .slice as9 ns9 cs9], .box b6 37 [.int .i64 f1, .slice as7 ns7 cs7, .int .i64 f3, .slice as8 ns8 cs8], .box b5 24 [.int .i64 2, .int .i64 0, vs [], .slice none 0 0], .box b4 24 [.int .i64 4, .int .i64 0, vs [112, 97, 112, 101, 114], .slice none 0 0], .box b2 37 [.int .i64 v2.1.P.Sign, .slice as3 ns3 cs3, .int .i64 v2.1.Q.Sign, .slice as4 ns4 cs4], .box b1 37 [.int .i64 v1.1.P.Sign, .slice as1 ns1 cs1, .int .i64 v1.1.Q.Sign, .slice as2 ns2 cs2]] w' ∧ Has 129 a [(128, .bool v20)]) ?_ (fun hK3 => ?_)
           ·rintro a wx46 ⟨Fx24, hF24, hx47, hax10⟩
            refine a9z hax10 ?_
            refine d_tk 18 rfl (by kernel_rfl) rfl rfl rfl rfl (hx47.sh (((hF21.trans hF22).trans hF23).trans hF24) [0, 1, 2, 3, 4, 5, 6, 7, 8, 9, 10, 11] (by decide) rfl) (fun _ _ _ _ _ => a0b rfl rfl rfl (a0c (qq rfl))) ?_
            refine a2u (by kernel_rfl) ?_
            refine a0d (a1d ?_)
            refine a1k rfl rfl ?_
            obtain rfl := Option.some.inj hm
            exact ⟨_, _, _, rfl, hx47.pick [] (by decide) rfl, rfl, rfl⟩
           ·clear hm
            rcases a0g hb11 with ⟨hb12, hb11⟩ | ⟨hb12, hb11⟩
            ·refine b2e 124 rfl hb12 ?_
             refine d_tk 14 rfl (by kernel_rfl) rfl rfl rfl rfl (hx46.sh ((hF21.trans hF22).trans hF23) [0, 1, 2, 3, 4, 5, 6, 7, 8, 9, 10, 11] (by decide) rfl) (fun _ _ _ _ hq => a0l ag37 sz37 rfl rfl hq rfl (i := 1) rfl rfl (a0c (qq rfl))) ?_
             refine a0y 15 rfl (by kernel_rfl) ?_
             obtain ⟨v21, hv14, hb11⟩ := bind_some hb11
             refine a0i ent17 rfl rfl rfl rfl hx46 (a9o _ _ _ hv14 hx46.sat) ?_
             rintro _ Fx25 _ wx47 hF25 hx48 ⟨as24, ns24, cs24, as25, ns25, cs25, rfl, rfl, hs24, hs25⟩
             refine a0r (hx48.sh (((hF21.trans hF22).trans hF23).trans hF25) [0, 1, 2, 3, 4, 5, 6, 7, 8, 9, 10, 11] (by decide) rfl) ?_
             refine a0y 16 rfl (by kernel_rfl) ?_
             have hG6 := (((hF20.trans hF21).trans hF22).trans hF23).trans hF25
             obtain ⟨v22, hv15, hb11⟩ := bind_some hb11
             refine a0i ent12 rfl rfl rfl rfl hx48 (a7f _ _ _ _ hv15 hx48.sat (hs20.mono hG6) (hs21.mono hG6) hs24 hs25) ?_
             rintro _ Fx26 _ wx48 hF26 hx49 ⟨rfl, rfl⟩
             refine a0r (hx49.sh ((((hF21.trans hF22).trans hF23).trans hF25).trans hF26) [0, 1, 2, 3, 4, 5, 6, 7, 8, 9, 10, 11] (by decide) rfl) ?_
             refine d_tk 17 rfl (by kernel_rfl) rfl rfl rfl rfl (hx49.sh ((((hF21.trans hF22).trans hF23).trans hF25).trans hF26) [0, 1, 2, 3, 4, 5, 6, 7, 8, 9, 10, 11] (by decide) rfl) (fun _ _ _ _ _ => a0o rfl rfl rfl rfl (a0c (qq rfl))) ?_
             refine b2d hK3 (by kernel_rfl) (fun a ha => ?_)
             cases hb11
             exact ⟨_, (hF25.trans hF26), hx49.pick [0, 1, 2, 3, 4, 5, 6, 7, 8, 9, 10, 11] (by decide) rfl, ha.cut (l := [128]) rfl⟩
            ·refine b2e 124 rfl hb12 ?_
             refine d_of 14 rfl (by kernel_rfl) rfl rfl rfl (hx46.sh ((hF21.trans hF22).trans hF23) [0, 1, 2, 3, 4, 5, 6, 7, 8, 9, 10, 11] (by decide) rfl) ?_
             refine d_of 15 rfl (by kernel_rfl) rfl rfl rfl (hx46.sh ((hF21.trans hF22).trans hF23) [0, 1, 2, 3, 4, 5, 6, 7, 8, 9, 10, 11] (by decide) rfl) ?_
             refine d_of 16 rfl (by kernel_rfl) rfl rfl rfl (hx46.sh ((hF21.trans hF22).trans hF23) [0, 1, 2, 3, 4, 5, 6, 7, 8, 9, 10, 11] (by decide) rfl) ?_
             refine d_tk 17 rfl (by kernel_rfl) rfl rfl rfl rfl (hx46.sh ((hF21.trans hF22).trans hF23) [0, 1, 2, 3, 4, 5, 6, 7, 8, 9, 10, 11] (by decide) rfl) (fun _ _ _ _ _ => a0m rfl rfl rfl rfl (a0c (qq rfl))) ?_
             refine b2d hK3 (by kernel_rfl) (fun a ha => ?_)
             cases hb11
             exact ⟨_, Frz.refl _, hx46.pick [0, 1, 2, 3, 4, 5, 6, 7, 8, 9, 10, 11] (by decide) rfl, ha.cut (l := [128]) rfl⟩
          ·clear hm
           rcases a0g hb10 with ⟨hb13, hb10⟩ | ⟨hb13, hb10⟩
           ·refine b2e 119 rfl hb13 ?_
            refine d_tk 9 rfl (by kernel_rfl) rfl rfl rfl rfl (hx45.sh (hF21.trans hF22) [0, 1, 2, 3, 4, 5, 6, 7, 8, 9, 10, 11] (by decide) rfl) (fun _ _ _ _ hq => a0l ag37 sz37 rfl rfl hq rfl (i := 2) rfl rfl (a0c (qq rfl))) ?_
            refine a0y 10 rfl (by kernel_rfl) ?_
            obtain ⟨v23, hv16, hb10⟩ := bind_some hb10
            refine a0i ent17 rfl rfl rfl rfl hx45 (a9o _ _ _ hv16 hx45.sat) ?_
            rintro _ Fx27 _ wx49 hF27 hx50 ⟨as26, ns26, cs26, as27, ns27, cs27, rfl, rfl, hs26, hs27⟩
            refine a0r (hx50.sh ((hF21.trans hF22).trans hF27) [0, 1, 2, 3, 4, 5, 6, 7, 8, 9, 10, 11] (by decide) rfl) ?_
            refine a0y 11 rfl (by kernel_rfl) ?_
            have hG7 := (((((hF17.trans hF18).trans hF19).trans hF20).trans hF21).trans hF22).trans hF27
            obtain ⟨v24, hv17, hb10⟩ := bind_some hb10
            refine a0i ent12 rfl rfl rfl rfl hx50 (a7f _ _ _ _ hv17 hx50.sat (hs18.mono hG7) (hs19.mono hG7) hs26 hs27) ?_
            rintro _ Fx28 _ wx50 hF28 hx51 ⟨rfl, rfl⟩
            refine a0r (hx51.sh (((hF21.trans hF22).trans hF27).trans hF28) [0, 1, 2, 3, 4, 5, 6, 7, 8, 9, 10, 11] (by decide) rfl) ?_
            refine d_tk 12 rfl (by kernel_rfl) rfl rfl rfl rfl (hx51.sh (((hF21.trans hF22).trans hF27).trans hF28) [0, 1, 2, 3, 4, 5, 6, 7, 8, 9, 10, 11] (by decide) rfl) (fun _ _ _ _ _ => a0o rfl rfl rfl rfl (a0c (qq rfl))) ?_
            refine b2d hK2 (by kernel_rfl) (fun a ha => ?_)
            cases hb10
            exact ⟨_, (hF27.trans hF28), hx51.pick [0, 1, 2, 3, 4, 5, 6, 7, 8, 9, 10, 11] (by decide) rfl, ha.cut (l := [17, 123]) rfl⟩
           ·refine b2e 119 rfl hb13 ?_
            refine d_of 9 rfl (by kernel_rfl) rfl rfl rfl (hx45.sh (hF21.trans hF22) [0, 1, 2, 3, 4, 5, 6, 7, 8, 9, 10, 11] (by decide) rfl) ?_
            refine d_of 10 rfl (by kernel_rfl) rfl rfl rfl (hx45.sh (hF21.trans hF22) [0, 1, 2, 3, 4, 5, 6, 7, 8, 9, 10, 11] (by decide) rfl) ?_
            refine d_of 11 rfl (by kernel_rfl) rfl rfl rfl (hx45.sh (hF21.trans hF22) [0, 1, 2, 3, 4, 5, 6, 7, 8, 9, 10, 11] (by decide) rfl) ?_
            refine d_tk 12 rfl (by kernel_rfl) rfl rfl rfl rfl (hx45.sh (hF21.trans hF22) [0, 1, 2, 3, 4, 5, 6, 7, 8, 9, 10, 11] (by decide) rfl) (fun _ _ _ _ _ => a0m rfl rfl rfl rfl (a0c (qq rfl))) ?_
            refine b2d hK2 (by kernel_rfl) (fun a ha => ?_)
            cases hb10
            exact ⟨_, Frz.refl _, hx45.pick [0, 1, 2, 3, 4, 5, 6, 7, 8, 9, 10, 11] (by decide) rfl, ha.cut (l := [17, 123]) rfl⟩
         ·clear hm
          rcases a0g hb9 with ⟨hb14, hb9⟩ | ⟨hb14, hb9⟩
          ·refine b2e 114 rfl hb14 ?_
           refine d_tk 4 rfl (by kernel_rfl) rfl rfl rfl rfl (hx44.sh hF21 [0, 1, 2, 3, 4, 5, 6, 7, 8, 9, 10, 11] (by decide) rfl) (fun _ _ _ _ hq => a0l ag37 sz37 rfl rfl hq rfl (i := 5) rfl rfl (a0c (qq rfl))) ?_
           refine a0y 5 rfl (by kernel_rfl) ?_
           obtain ⟨v25, hv18, hb9⟩ := bind_some hb9
           refine a0i ent17 rfl rfl rfl rfl hx44 (a9o _ _ _ hv18 hx44.sat) ?_
           rintro _ Fx29 _ wx51 hF29 hx52 ⟨as28, ns28, cs28, as29, ns29, cs29, rfl, rfl, hs28, hs29⟩
           refine a0r (hx52.sh (hF21.trans hF29) [0, 1, 2, 3, 4, 5, 6, 7, 8, 9, 10, 11] (by decide) rfl) ?_
           refine a0y 6 rfl (by kernel_rfl) ?_
           have hG8 := ((((((((((hF11.trans hF12).trans hF13).trans hF14).trans hF15).trans hF16).trans hF17).trans hF18).trans hF19).trans hF20).trans hF21).trans hF29
           obtain ⟨v26, hv19, hb9⟩ := bind_some hb9
           refine a0i ent12 rfl rfl rfl rfl hx52 (a7f _ _ _ _ hv19 hx52.sat (hs12.mono hG8) (hs13.mono hG8) hs28 hs29) ?_
           rintro _ Fx30 _ wx52 hF30 hx53 ⟨rfl, rfl⟩
           refine a0r (hx53.sh ((hF21.trans hF29).trans hF30) [0, 1, 2, 3, 4, 5, 6, 7, 8, 9, 10, 11] (by decide) rfl) ?_
           refine d_tk 7 rfl (by kernel_rfl) rfl rfl rfl rfl (hx53.sh ((hF21.trans hF29).trans hF30) [0, 1, 2, 3, 4, 5, 6, 7, 8, 9, 10, 11] (by decide) rfl) (fun _ _ _ _ _ => a0o rfl rfl rfl rfl (a0c (qq rfl))) ?_
           refine b2d hK1 (by kernel_rfl) (fun a ha => ?_)
           cases hb9
           exact ⟨_, (hF29.trans hF30), hx53.pick [0, 1, 2, 3, 4, 5, 6, 7, 8, 9, 10, 11] (by decide) rfl, ha.cut (l := [15, 17, 118]) rfl⟩
          ·refine b2e 114 rfl hb14 ?_
           refine d_of 4 rfl (by kernel_rfl) rfl rfl rfl (hx44.sh hF21 [0, 1, 2, 3, 4, 5, 6, 7, 8, 9, 10, 11] (by decide) rfl) ?_
           refine d_of 5 rfl (by kernel_rfl) rfl rfl rfl (hx44.sh hF21 [0, 1, 2, 3, 4, 5, 6, 7, 8, 9, 10, 11] (by decide) rfl) ?_
           refine d_of 6 rfl (by kernel_rfl) rfl rfl rfl (hx44.sh hF21 [0, 1, 2, 3, 4, 5, 6, 7, 8, 9, 10, 11] (by decide) rfl) ?_
           refine d_tk 7 rfl (by kernel_rfl) rfl rfl rfl rfl (hx44.sh hF21 [0, 1, 2, 3, 4, 5, 6, 7, 8, 9, 10, 11] (by decide) rfl) (fun _ _ _ _ _ => a0m rfl rfl rfl rfl (a0c (qq rfl))) ?_
           refine b2d hK1 (by kernel_rfl) (fun a ha => ?_)
           cases hb9
           exact ⟨_, Frz.refl _, hx44.pick [0, 1, 2, 3, 4, 5, 6, 7, 8, 9, 10, 11] (by decide) rfl, ha.cut (l := [15, 17, 118]) rfl⟩
       ·clear hm
        rcases a0g hb7 with ⟨hb15, hb7⟩ | ⟨hb15, hb7⟩
        ·refine a1i 107 rfl hb15 ?_
         refine a0x rfl (by decide) rfl (a0x rfl (by decide) rfl (a0o rfl rfl rfl rfl (a0c ?_)))
         refine a0n (fun a ha => ?_)
         cases hb7
         exact ⟨rfl, ha.cut (l := [3, 8, 11, 15, 17, 110]) rfl⟩
        ·refine a1i 107 rfl hb15 ?_
         refine a0e rfl rfl rfl ?_
         refine a0u rfl rfl rfl rfl rfl ?_
         refine a0m rfl rfl rfl rfl (a0c ?_)
         refine a0n (fun a ha => ?_)
         cases hb7
         exact ⟨rfl, ha.cut (l := [3, 8, 11, 15, 17, 110]) rfl⟩
      ·clear hm
       rcases a0g hb6 with ⟨hb16, hb6⟩ | ⟨hb16, hb6⟩
       ·refine a1i 103 rfl hb16 ?_
        refine a0x rfl (by decide) rfl (a0x rfl (by decide) rfl (a0o rfl rfl rfl rfl (a0c ?_)))
        refine a0n (fun a ha => ?_)
        cases hb6
        exact ⟨rfl, ha.cut (l := [3, 8, 11, 15, 17, 20, 106]) rfl⟩
       ·refine a1i 103 rfl hb16 ?_
        refine a0e rfl rfl rfl ?_
        refine a0u rfl rfl rfl rfl rfl ?_
        refine a0m rfl rfl rfl rfl (a0c ?_)
        refine a0n (fun a ha => ?_)
        cases hb6
        exact ⟨rfl, ha.cut (l := [3, 8, 11, 15, 17, 20, 106]) rfl⟩
     ·clear hm
      rcases a0g hb5 with ⟨hb17, hb5⟩ | ⟨hb17, hb5⟩
      ·refine a1i 99 rfl hb17 ?_
       refine a0x rfl (by decide) rfl (a0x rfl (by decide) rfl (a0o rfl rfl rfl rfl (a0c ?_)))
       refine a0n (fun a ha => ?_)
       cases hb5
       exact ⟨rfl, ha.cut (l := [3, 8, 11, 15, 17, 18, 20, 102]) rfl⟩
      ·refine a1i 99 rfl hb17 ?_
       refine a0e rfl rfl rfl ?_
       refine a0u rfl rfl rfl rfl rfl ?_
       refine a0m rfl rfl rfl rfl (a0c ?_)
       refine a0n (fun a ha => ?_)
       cases hb5
       exact ⟨rfl, ha.cut (l := [3, 8, 11, 15, 17, 18, 20, 102]) rfl⟩
    ·clear hm
     rcases a0g hb4 with ⟨hb18, hb4⟩ | ⟨hb18, hb4⟩
     ·refine a1i 95 rfl hb18 ?_
      refine a0x rfl (by decide) rfl (a0x rfl (by decide) rfl (a0o rfl rfl rfl rfl (a0c ?_)))
      refine a0n (fun a ha => ?_)
      cases hb4
      exact ⟨rfl, ha.cut (l := [3, 8, 11, 15, 16, 17, 18, 20, 98]) rfl⟩
     ·refine a1i 95 rfl hb18 ?_
      refine a0e rfl rfl rfl ?_
      refine a0u rfl rfl rfl rfl rfl ?_
      refine a0m rfl rfl rfl rfl (a0c ?_)
      refine a0n (fun a ha => ?_)
      cases hb4
      exact ⟨rfl, ha.cut (l := [3, 8, 11, 15, 16, 17, 18, 20, 98]) rfl⟩
   ·clear hm
    refine a2j (SH Fx14 [.box b9 24 [.int .i64 v9.Op, .int .i64 v9.N, vs v9.Name, .slice as16 ns16 cs16], .box b8 37 [.int .i64 v6.1.P.Sign, .slice as12 ns12 cs12, .int .i64 v6.1.Q.Sign, .slice as13 ns13 cs13], .box b7 24 [.int .i64 f5, .int .i64 f6, vs f7, .slice as9 ns9 cs9], .box b6 37 [.int .i64 f1, .slice as7 ns7 cs7, .int .i64 f3, .slice as8 ns8 cs8], .box b5 24 [.int .i64 2, .int .i64 0, vs [], .slice none 0 0], .box b4 24 [.int .i64 4, .int .i64 0, vs [112, 97, 112, 101, 114], .slice none 0 0], .box b2 37 [.int .i64 v2.1.P.Sign, .slice as3 ns3 cs3, .int .i64 v2.1.Q.Sign, .slice as4 ns4 cs4], .box b1 37 [.int .i64 v1.1.P.Sign, .slice as1 ns1 cs1, .int .i64 v1.1.Q.Sign, .slice as2 ns2 cs2]]) 10 rfl (by kernel_rfl) hx28 ?_
    intro wx53 hx54
    refine d_tk 0 rfl (by kernel_rfl) rfl rfl rfl rfl (hx54.sh (Frz.refl _) [0, 1, 2, 3, 4, 5, 6, 7] (by decide) rfl) (fun _ _ _ _ hq => a0l ag24 sz24 rfl rfl hq rfl (i := 4) rfl rfl (a0c (qq rfl))) ?_
    refine d_tk 5 rfl (by kernel_rfl) rfl rfl rfl rfl (hx54.sh (Frz.refl _) [0, 1, 2, 3, 4, 5, 6, 7] (by decide) rfl) (fun _ _ _ _ hq => a0l ag24 sz24 rfl rfl hq rfl (i := 0) rfl rfl (a0c (qq rfl))) ?_
    refine b0e 1 8 rfl rfl (by kernel_rfl) ?_ ?_
    ·obtain ⟨v27, hv20, hb3⟩ := bind_some hb3
     refine a0i ent30 rfl rfl rfl rfl hx54 (a2z _ _ _ hv20 hx54.sat) ?_
     rintro _ Fx31 _ wx54 hF31 hx55 ⟨as30, ns30, cs30, rfl, rfl, hs30⟩
     refine a0r (hx55.sh hF31 [0, 1, 2, 3, 4, 5, 6, 7] (by decide) rfl) ?_
     refine b0e 2 8 rfl rfl (by kernel_rfl) ?_ ?_
     ·obtain ⟨v28, hv21, hb3⟩ := bind_some hb3
      refine a0i ent29 rfl rfl rfl rfl hx55 (a2s _ _ _ _ hv21 hx55.sat (SlR.nil _ _) hs30) ?_
      rintro _ Fx32 _ wx55 hF32 hx56 ⟨as31, ns31, cs31, xss31, rfl, rfl, hs31⟩
      refine a0r (hx56.sh (hF31.trans hF32) [1, 2, 3, 4, 5, 6, 7, 8] (by decide) rfl) ?_
      refine b0e 3 8 rfl rfl (by kernel_rfl) ?_ ?_
      ·obtain ⟨Fx33, hF33, hx57, hsx6⟩ := a1b hx56 (i := 0) rfl hs31
       obtain ⟨v29, hv22, hb3⟩ := bind_some hb3
       refine a0i ent28 rfl rfl rfl rfl hx57 (a1r _ _ _ _ hv22 hx57.sat hsx6) ?_
       rintro _ Fx34 _ wx56 hF34 hx58 ⟨as32, ns32, cs32, rfl, rfl, hs32⟩
       refine a0r (hx58.sh (((hF31.trans hF32).trans hF33).trans hF34) [0, 1, 2, 3, 4, 5, 6, 7] (by decide) rfl) ?_
       refine b0e 4 8 rfl rfl (by kernel_rfl) ?_ ?_
       ·obtain ⟨v30, hv23, hb3⟩ := bind_some hb3
        refine a0i ent30 rfl rfl rfl rfl hx58 (a2z _ _ _ hv23 hx58.sat) ?_
        rintro _ Fx35 _ wx57 hF35 hx59 ⟨as33, ns33, cs33, rfl, rfl, hs33⟩
        refine a0r (hx59.sh ((((hF31.trans hF32).trans hF33).trans hF34).trans hF35) [0, 1, 2, 3, 4, 5, 6, 7] (by decide) rfl) ?_
        refine b0e 6 8 rfl rfl (by kernel_rfl) ?_ ?_
        ·refine a1p (e := 24) (cs := [.int .i64 v29.Op, .int .i64 v29.N, vs v29.Name, .slice as32 ns32 cs32, .int .i64 v30.Op, .int .i64 v30.N, vs v30.Name, .slice as33 ns33 cs33, .int .i64 v9.Op, .int .i64 v9.N, vs v9.Name, .slice as16 ns16 cs16]) (q := 4) rfl rfl hx59 rfl (fun _ => by kernel_rfl) rfl rfl ?_
         intro b16 wx58 hx60
         refine a0r (hx60.sh ((((hF31.trans hF32).trans hF33).trans hF34).trans hF35) [1, 2, 3, 4, 5, 6, 7, 8] (by decide) rfl) ?_
         refine b0e 7 8 rfl rfl (by kernel_rfl) ?_ ?_
         ·obtain ⟨Fx36, hF36, hx61, hsx7⟩ := a1b hx60 (i := 0) rfl ((show RowN rp_Expr Fx35 3 [.int .i64 v29.Op, .int .i64 v29.N, vs v29.Name, .slice as32 ns32 cs32, .int .i64 v30.Op, .int .i64 v30.N, vs v30.Name, .slice as33 ns33 cs33, .int .i64 v9.Op, .int .i64 v9.N, vs v9.Name, .slice as16 ns16 cs16] [v29, v30, v9] from ⟨rfl, ⟨_, _, rfl, (expr_iff.2 ⟨as32, ns32, cs32, rfl, (hs32.mono hF35)⟩), ⟨_, _, rfl, (expr_iff.2 ⟨as33, ns33, cs33, rfl, hs33⟩), ⟨_, _, rfl, (expr_iff.2 ⟨as16, ns16, cs16, rfl, (((((hs16.mono hF31).mono hF32).mono hF33).mono hF34).mono hF35)⟩), (rfl : RowR rp_Expr _ [] [])⟩⟩⟩⟩))
          obtain ⟨v31, hv24, hb3⟩ := bind_some hb3
          refine a0i ent28 rfl rfl rfl rfl hx61 (a1r _ _ _ _ hv24 hx61.sat hsx7) ?_
          rintro _ Fx37 _ wx59 hF37 hx62 ⟨as34, ns34, cs34, rfl, rfl, hs34⟩
          refine a0r (hx62.sh ((((((hF31.trans hF32).trans hF33).trans hF34).trans hF35).trans hF36).trans hF37) [0, 1, 2, 3, 4, 5, 6, 7] (by decide) rfl) ?_
          refine a0y 8 rfl (by kernel_rfl) ?_
          refine a1f ze24 rfl rfl rfl hx62 ?_
          intro b17 wx60 hx63
          refine a0r (hx63.sh ((((((hF31.trans hF32).trans hF33).trans hF34).trans hF35).trans hF36).trans hF37) [1, 2, 3, 4, 5, 6, 7, 8] (by decide) rfl) ?_
          refine a0y 9 rfl (by kernel_rfl) ?_
          refine a0q sz24 rfl hx63 rfl rfl rfl rfl (i := 0) rfl rfl rfl rfl ?_
          intro wx61 hx64
          refine a0r (hx64.sh ((((((hF31.trans hF32).trans hF33).trans hF34).trans hF35).trans hF36).trans hF37) [1, 2, 3, 4, 5, 6, 7, 8] (by decide) rfl) ?_
          refine a2u (by kernel_rfl) ?_
          refine a0n (fun a ha => ?_)
          cases hb3
          exact ⟨_, b17, as34, ns34, cs34, ((((((hF31.trans hF32).trans hF33).trans hF34).trans hF35).trans hF36).trans hF37), hx64.pick [0, 1, 2, 3, 4, 5, 6, 7, 8] (by decide) rfl, hs34, ha.cut (l := [3, 5, 8, 9, 11, 12, 14]) rfl⟩
         ·refine a1f ze24 rfl rfl rfl hx60 ?_
          intro b17 wx59 hx61
          refine a0r (hx61.sh ((((hF31.trans hF32).trans hF33).trans hF34).trans hF35) [2, 3, 4, 5, 6, 7, 8, 9] (by decide) rfl) ?_
          refine a0y 7 rfl (by kernel_rfl) ?_
          obtain ⟨Fx36, hF36, hx62, hsx7⟩ := a1b hx61 (i := 1) rfl ((show RowN rp_Expr Fx35 3 [.int .i64 v29.Op, .int .i64 v29.N, vs v29.Name, .slice as32 ns32 cs32, .int .i64 v30.Op, .int .i64 v30.N, vs v30.Name, .slice as33 ns33 cs33, .int .i64 v9.Op, .int .i64 v9.N, vs v9.Name, .slice as16 ns16 cs16] [v29, v30, v9] from ⟨rfl, ⟨_, _, rfl, (expr_iff.2 ⟨as32, ns32, cs32, rfl, (hs32.mono hF35)⟩), ⟨_, _, rfl, (expr_iff.2 ⟨as33, ns33, cs33, rfl, hs33⟩), ⟨_, _, rfl, (expr_iff.2 ⟨as16, ns16, cs16, rfl, (((((hs16.mono hF31).mono hF32).mono hF33).mono hF34).mono hF35)⟩), (rfl : RowR rp_Expr _ [] [])⟩⟩⟩⟩))
          obtain ⟨v31, hv24, hb3⟩ := bind_some hb3
          refine a0i ent28 rfl rfl rfl rfl hx62 (a1r _ _ _ _ hv24 hx62.sat hsx7) ?_
          rintro _ Fx37 _ wx60 hF37 hx63 ⟨as34, ns34, cs34, rfl, rfl, hs34⟩
          refine a0r (hx63.sh ((((((hF31.trans hF32).trans hF33).trans hF34).trans hF35).trans hF36).trans hF37) [1, 2, 3, 4, 5, 6, 7, 8] (by decide) rfl) ?_
          refine a0y 9 rfl (by kernel_rfl) ?_
          refine a0q sz24 rfl hx63 rfl rfl rfl rfl (i := 0) rfl rfl rfl rfl ?_
          intro wx61 hx64
          refine a0r (hx64.sh ((((((hF31.trans hF32).trans hF33).trans hF34).trans hF35).trans hF36).trans hF37) [1, 2, 3, 4, 5, 6, 7, 8] (by decide) rfl) ?_
          refine a2u (by kernel_rfl) ?_
          refine a0n (fun a ha => ?_)
          cases hb3
          exact ⟨_, b17, as34, ns34, cs34, ((((((hF31.trans hF32).trans hF33).trans hF34).trans hF35).trans hF36).trans hF37), hx64.pick [0, 1, 2, 3, 4, 5, 6, 7, 8] (by decide) rfl, hs34, ha.cut (l := [3, 5, 8, 9, 11, 12, 14]) rfl⟩
        ·refine a1f ze24 rfl rfl rfl hx59 ?_
         intro b16 wx58 hx60
         refine a0r (hx60.sh ((((hF31.trans hF32).trans hF33).trans hF34).trans hF35) [1, 2, 3, 4, 5, 6, 7, 8] (by decide) rfl) ?_
         refine a0y 6 rfl (by kernel_rfl) ?_
         refine a1p (e := 24) (cs := [.int .i64 v29.Op, .int .i64 v29.N, vs v29.Name, .slice as32 ns32 cs32, .int .i64 v30.Op, .int .i64 v30.N, vs v30.Name, .slice as33 ns33 cs33, .int .i64 v9.Op, .int .i64 v9.N, vs v9.Name, .slice as16 ns16 cs16]) (q := 4) rfl rfl hx60 rfl (fun _ => by kernel_rfl) rfl rfl ?_
         intro b17 wx59 hx61
         refine a0r (hx61.sh ((((hF31.trans hF32).trans hF33).trans hF34).trans hF35) [2, 3, 4, 5, 6, 7, 8, 9] (by decide) rfl) ?_
         refine a0y 7 rfl (by kernel_rfl) ?_
         obtain ⟨Fx36, hF36, hx62, hsx7⟩ := a1b hx61 (i := 0) rfl ((show RowN rp_Expr Fx35 3 [.int .i64 v29.Op, .int .i64 v29.N, vs v29.Name, .slice as32 ns32 cs32, .int .i64 v30.Op, .int .i64 v30.N, vs v30.Name, .slice as33 ns33 cs33, .int .i64 v9.Op, .int .i64 v9.N, vs v9.Name, .slice as16 ns16 cs16] [v29, v30, v9] from ⟨rfl, ⟨_, _, rfl, (expr_iff.2 ⟨as32, ns32, cs32, rfl, (hs32.mono hF35)⟩), ⟨_, _, rfl, (expr_iff.2 ⟨as33, ns33, cs33, rfl, hs33⟩), ⟨_, _, rfl, (expr_iff.2 ⟨as16, ns16, cs16, rfl, (((((hs16.mono hF31).mono hF32).mono hF33).mono hF34).mono hF35)⟩), (rfl : RowR rp_Expr _ [] [])⟩⟩⟩⟩))
         obtain ⟨v31, hv24, hb3⟩ := bind_some hb3
         refine a0i ent28 rfl rfl rfl rfl hx62 (a1r _ _ _ _ hv24 hx62.sat hsx7) ?_
         rintro _ Fx37 _ wx60 hF37 hx63 ⟨as34, ns34, cs34, rfl, rfl, hs34⟩
         refine a0r (hx63.sh ((((((hF31.trans hF32).trans hF33).trans hF34).trans hF35).trans hF36).trans hF37) [1, 2, 3, 4, 5, 6, 7, 8] (by decide) rfl) ?_
         refine a0y 9 rfl (by kernel_rfl) ?_
         refine a0q sz24 rfl hx63 rfl rfl rfl rfl (i := 0) rfl rfl rfl rfl ?_
         intro wx61 hx64
         refine a0r (hx64.sh ((((((hF31.trans hF32).trans hF33).trans hF34).trans hF35).trans hF36).trans hF37) [1, 2, 3, 4, 5, 6, 7, 8] (by decide) rfl) ?_
         refine a2u (by kernel_rfl) ?_
         refine a0n (fun a ha => ?_)
         cases hb3
         exact ⟨_, b16, as34, ns34, cs34, ((((((hF31.trans hF32).trans hF33).trans hF34).trans hF35).trans hF36).trans hF37), hx64.pick [0, 1, 2, 3, 4, 5, 6, 7, 8] (by decide) rfl, hs34, ha.cut (l := [3, 5, 8, 9, 11, 12, 14]) rfl⟩
       ·refine a1f ze24 rfl rfl rfl hx58 ?_
        intro b16 wx57 hx59
        refine a0r (hx59.sh (((hF31.trans hF32).trans hF33).trans hF34) [1, 2, 3, 4, 5, 6, 7, 8] (by decide) rfl) ?_
        refine a0y 4 rfl (by kernel_rfl) ?_
        obtain ⟨v30, hv23, hb3⟩ := bind_some hb3
        refine a0i ent30 rfl rfl rfl rfl hx59 (a2z _ _ _ hv23 hx59.sat) ?_
        rintro _ Fx35 _ wx58 hF35 hx60 ⟨as33, ns33, cs33, rfl, rfl, hs33⟩
        refine a0r (hx60.sh ((((hF31.trans hF32).trans hF33).trans hF34).trans hF35) [1, 2, 3, 4, 5, 6, 7, 8] (by decide) rfl) ?_
        refine a0y 6 rfl (by kernel_rfl) ?_
        refine a1p (e := 24) (cs := [.int .i64 v29.Op, .int .i64 v29.N, vs v29.Name, .slice as32 ns32 cs32, .int .i64 v30.Op, .int .i64 v30.N, vs v30.Name, .slice as33 ns33 cs33, .int .i64 v9.Op, .int .i64 v9.N, vs v9.Name, .slice as16 ns16 cs16]) (q := 4) rfl rfl hx60 rfl (fun _ => by kernel_rfl) rfl rfl ?_
        intro b17 wx59 hx61
        refine a0r (hx61.sh ((((hF31.trans hF32).trans hF33).trans hF34).trans hF35) [2, 3, 4, 5, 6, 7, 8, 9] (by decide) rfl) ?_
        refine a0y 7 rfl (by kernel_rfl) ?_
        obtain ⟨Fx36, hF36, hx62, hsx7⟩ := a1b hx61 (i := 0) rfl ((show RowN rp_Expr Fx35 3 [.int .i64 v29.Op, .int .i64 v29.N, vs v29.Name, .slice as32 ns32 cs32, .int .i64 v30.Op, .int .i64 v30.N, vs v30.Name, .slice as33 ns33 cs33, .int .i64 v9.Op, .int .i64 v9.N, vs v9.Name, .slice as16 ns16 cs16] [v29, v30, v9] from ⟨rfl, ⟨_, _, rfl, (expr_iff.2 ⟨as32, ns32, cs32, rfl, (hs32.mono hF35)⟩), ⟨_, _, rfl, (expr_iff.2 ⟨as33, ns33, cs33, rfl, hs33⟩), ⟨_, _, rfl, (expr_iff.2 ⟨as16, ns16, cs16, rfl, (((((hs16.mono hF31).mono hF32).mono hF33).mono hF34).mono hF35)⟩), (rfl : RowR rp_Expr _ [] [])⟩⟩⟩⟩))
        obtain ⟨v31, hv24, hb3⟩ := bind_some hb3
        refine a0i ent28 rfl rfl rfl rfl hx62 (a1r _ _ _ _ hv24 hx62.sat hsx7) ?_
        rintro _ Fx37 _ wx60 hF37 hx63 ⟨as34, ns34, cs34, rfl, rfl, hs34⟩
        refine a0r (hx63.sh ((((((hF31.trans hF32).trans hF33).trans hF34).trans hF35).trans hF36).trans hF37) [1, 2, 3, 4, 5, 6, 7, 8] (by decide) rfl) ?_
        refine a0y 9 rfl (by kernel_rfl) ?_
        refine a0q sz24 rfl hx63 rfl rfl rfl rfl (i := 0) rfl rfl rfl rfl ?_
        intro wx61 hx64
        refine a0r (hx64.sh ((((((hF31.trans hF32).trans hF33).trans hF34).trans hF35).trans hF36).trans hF37) [1, 2, 3, 4, 5, 6, 7, 8] (by decide) rfl) ?_
        refine a2u (by kernel_rfl) ?_
        refine a0n (fun a ha => ?_)
        cases hb3
        exact ⟨_, b16, as34, ns34, cs34, ((((((hF31.trans hF32).trans hF33).trans hF34).trans hF35).trans hF36).trans hF37), hx64.pick [0, 1, 2, 3, 4, 5, 6, 7, 8] (by decide) rfl, hs34, ha.cut (l := [3, 5, 8, 9, 11, 12, 14]) rfl⟩
      ·refine a1f ze24 rfl rfl rfl hx56 ?_
       intro b16 wx56 hx57
       refine a0r (hx57.sh (hF31.trans hF32) [2, 3, 4, 5, 6, 7, 8, 9] (by decide) rfl) ?_
       refine a0y 3 rfl (by kernel_rfl) ?_
       obtain ⟨Fx33, hF33, hx58, hsx6⟩ := a1b hx57 (i := 1) rfl hs31
       obtain ⟨v29, hv22, hb3⟩ := bind_some hb3
       refine a0i ent28 rfl rfl rfl rfl hx58 (a1r _ _ _ _ hv22 hx58.sat hsx6) ?_
       rintro _ Fx34 _ wx57 hF34 hx59 ⟨as32, ns32, cs32, rfl, rfl, hs32⟩
       refine a0r (hx59.sh (((hF31.trans hF32).trans hF33).trans hF34) [1, 2, 3, 4, 5, 6, 7, 8] (by decide) rfl) ?_
       refine a0y 4 rfl (by kernel_rfl) ?_
       obtain ⟨v30, hv23, hb3⟩ := bind_some hb3
       refine a0i ent30 rfl rfl rfl rfl hx59 (a2z _ _ _ hv23 hx59.sat) ?_
       rintro _ Fx35 _ wx58 hF35 hx60 ⟨as33, ns33, cs33, rfl, rfl, hs33⟩
       refine a0r (hx60.sh ((((hF31.trans hF32).trans hF33).trans hF34).trans hF35) [1, 2, 3, 4, 5, 6, 7, 8] (by decide) rfl) ?_
       refine a0y 6 rfl (by kernel_rfl) ?_
       refine a1p (e := 24) (cs := [.int .i64 v29.Op, .int .i64 v29.N, vs v29.Name, .slice as32 ns32 cs32, .int .i64 v30.Op, .int .i64 v30.N, vs v30.Name, .slice as33 ns33 cs33, .int .i64 v9.Op, .int .i64 v9.N, vs v9.Name, .slice as16 ns16 cs16]) (q := 4) rfl rfl hx60 rfl (fun _ => by kernel_rfl) rfl rfl ?_
       intro b17 wx59 hx61
       refine a0r (hx61.sh ((((hF31.trans hF32).trans hF33).trans hF34).trans hF35) [2, 3, 4, 5, 6, 7, 8, 9] (by decide) rfl) ?_
       refine a0y 7 rfl (by kernel_rfl) ?_
       obtain ⟨Fx36, hF36, hx62, hsx7⟩ := a1b hx61 (i := 0) rfl ((show RowN rp_Expr Fx35 3 [.int .i64 v29.Op, .int .i64 v29.N, vs v29.Name, .slice as32 ns32 cs32, .int .i64 v30.Op, .int .i64 v30.N, vs v30.Name, .slice as33 ns33 cs33, .int .i64 v9.Op, .int .i64 v9.N, vs v9.Name, .slice as16 ns16 cs16] [v29, v30, v9] from ⟨rfl, ⟨_, _, rfl, (expr_iff.2 ⟨as32, ns32, cs32, rfl, (hs32.mono hF35)⟩), ⟨_, _, rfl, (expr_iff.2 ⟨as33, ns33, cs33, rfl, hs33⟩), ⟨_, _, rfl, (expr_iff.2 ⟨as16, ns16, cs16, rfl, (((((hs16.mono hF31).mono hF32).mono hF33).mono hF34).mono hF35)⟩), (rfl : RowR rp_Expr _ [] [])⟩⟩⟩⟩))
       obtain ⟨v31, hv24, hb3⟩ := bind_some hb3
       refine a0i ent28 rfl rfl rfl rfl hx62 (a1r _ _ _ _ hv24 hx62.sat hsx7) ?_
       rintro _ Fx37 _ wx60 hF37 hx63 ⟨as34, ns34, cs34, rfl, rfl, hs34⟩
       refine a0r (hx63.sh ((((((hF31.trans hF32).trans hF33).trans hF34).trans hF35).trans hF36).trans hF37) [1, 2, 3, 4, 5, 6, 7, 8] (by decide) rfl) ?_
       refine a0y 9 rfl (by kernel_rfl) ?_
       refine a0q sz24 rfl hx63 rfl rfl rfl rfl (i := 0) rfl rfl rfl rfl ?_
       intro wx61 hx64
       refine a0r (hx64.sh ((((((hF31.trans hF32).trans hF33).trans hF34).trans hF35).trans hF36).trans hF37) [1, 2, 3, 4, 5, 6, 7, 8] (by decide) rfl) ?_
       refine a2u (by kernel_rfl) ?_
       refine a0n (fun a ha => ?_)
       cases hb3
       exact ⟨_, b16, as34, ns34, cs34, ((((((hF31.trans hF32).trans hF33).trans hF34).trans hF35).trans hF36).trans hF37), hx64.pick [0, 1, 2, 3, 4, 5, 6, 7, 8] (by decide) rfl, hs34, ha.cut (l := [3, 5, 8, 9, 11, 12, 14]) rfl⟩
     ·refine a1f ze24 rfl rfl rfl hx55 ?_
      intro b16 wx55 hx56
      refine a0r (hx56.sh hF31 [1, 2, 3, 4, 5, 6, 7, 8] (by decide) rfl) ?_
      refine a0y 2 rfl (by kernel_rfl) ?_
      obtain ⟨v28, hv21, hb3⟩ := bind_some hb3
      refine a0i ent29 rfl rfl rfl rfl hx56 (a2s _ _ _ _ hv21 hx56.sat (SlR.nil _ _) hs30) ?_
      rintro _ Fx32 _ wx56 hF32 hx57 ⟨as31, ns31, cs31, xss31, rfl, rfl, hs31⟩
      refine a0r (hx57.sh (hF31.trans hF32) [2, 3, 4, 5, 6, 7, 8, 9] (by decide) rfl) ?_
      refine a0y 3 rfl (by kernel_rfl) ?_
      obtain ⟨Fx33, hF33, hx58, hsx6⟩ := a1b hx57 (i := 0) rfl hs31
      obtain ⟨v29, hv22, hb3⟩ := bind_some hb3
      refine a0i ent28 rfl rfl rfl rfl hx58 (a1r _ _ _ _ hv22 hx58.sat hsx6) ?_
      rintro _ Fx34 _ wx57 hF34 hx59 ⟨as32, ns32, cs32, rfl, rfl, hs32⟩
      refine a0r (hx59.sh (((hF31.trans hF32).trans hF33).trans hF34) [1, 2, 3, 4, 5, 6, 7, 8] (by decide) rfl) ?_
      refine a0y 4 rfl (by kernel_rfl) ?_
      obtain ⟨v30, hv23, hb3⟩ := bind_some hb3
      refine a0i ent30 rfl rfl rfl rfl hx59 (a2z _ _ _ hv23 hx59.sat) ?_
      rintro _ Fx35 _ wx58 hF35 hx60 ⟨as33, ns33, cs33, rfl, rfl, hs33⟩
      refine a0r (hx60.sh ((((hF31.trans hF32).trans hF33).trans hF34).trans hF35) [1, 2, 3, 4, 5, 6, 7, 8] (by decide) rfl) ?_
      refine a0y 6 rfl (by kernel_rfl) ?_
      refine a1p (e := 24) (cs := [.int .i64 v29.Op, .int .i64 v29.N, vs v29.Name, .slice as32 ns32 cs32, .int .i64 v30.Op, .int .i64 v30.N, vs v30.Name, .slice as33 ns33 cs33, .int .i64 v9.Op, .int .i64 v9.N, vs v9.Name, .slice as16 ns16 cs16]) (q := 4) rfl rfl hx60 rfl (fun _ => by kernel_rfl) rfl rfl ?_
      intro b17 wx59 hx61
      refine a0r (hx61.sh ((((hF31.trans hF32).trans hF33).trans hF34).trans hF35) [2, 3, 4, 5, 6, 7, 8, 9] (by decide) rfl) ?_
      refine a0y 7 rfl (by kernel_rfl) ?_
      obtain ⟨Fx36, hF36, hx62, hsx7⟩ := a1b hx61 (i := 0) rfl ((show RowN rp_Expr Fx35 3 [.int .i64 v29.Op, .int .i64 v29.N, vs v29.Name, .slice as32 ns32 cs32, .int .i64 v30.Op, .int .i64 v30.N, vs v30.Name, .slice as33 ns33 cs33, .int .i64 v9.Op, .int .i64 v9.N, vs v9.Name, .slice as16 ns16 cs16] [v29, v30, v9] from ⟨rfl, ⟨_, _, rfl, (expr_iff.2 ⟨as32, ns32, cs32, rfl, (hs32.mono hF35)⟩), ⟨_, _, rfl, (expr_iff.2 ⟨as33, ns33, cs33, rfl, hs33⟩), ⟨_, _, rfl, (expr_iff.2 ⟨as16, ns16, cs16, rfl, (((((hs16.mono hF31).mono hF32).mono hF33).mono hF34).mono hF35)⟩), (rfl : RowR rp_Expr _ [] [])⟩⟩⟩⟩))
      obtain ⟨v31, hv24, hb3⟩ := bind_some hb3
      refine a0i ent28 rfl rfl rfl rfl hx62 (a1r _ _ _ _ hv24 hx62.sat hsx7) ?_
      rintro _ Fx37 _ wx60 hF37 hx63 ⟨as34, ns34, cs34, rfl, rfl, hs34⟩
      refine a0r (hx63.sh ((((((hF31.trans hF32).trans hF33).trans hF34).trans hF35).trans hF36).trans hF37) [1, 2, 3, 4, 5, 6, 7, 8] (by decide) rfl) ?_
      refine a0y 9 rfl (by kernel_rfl) ?_
      refine a0q sz24 rfl hx63 rfl rfl rfl rfl (i := 0) rfl rfl rfl rfl ?_
      intro wx61 hx64
      refine a0r (hx64.sh ((((((hF31.trans hF32).trans hF33).trans hF34).trans hF35).trans hF36).trans hF37) [1, 2, 3, 4, 5, 6, 7, 8] (by decide) rfl) ?_
      refine a2u (by kernel_rfl) ?_
      refine a0n (fun a ha => ?_)
      cases hb3
      exact ⟨_, b16, as34, ns34, cs34, ((((((hF31.trans hF32).trans hF33).trans hF34).trans hF35).trans hF36).trans hF37), hx64.pick [0, 1, 2, 3, 4, 5, 6, 7, 8] (by decide) rfl, hs34, ha.cut (l := [3, 5, 8, 9, 11, 12, 14]) rfl⟩
    ·refine a1f ze24 rfl rfl rfl hx54 ?_
     intro b16 wx54 hx55
     refine a0r (hx55.sh (Frz.refl _) [1, 2, 3, 4, 5, 6, 7, 8] (by decide) rfl) ?_
     refine a0y 1 rfl (by kernel_rfl) ?_
     obtain ⟨v27, hv20, hb3⟩ := bind_some hb3
     refine a0i ent30 rfl rfl rfl rfl hx55 (a2z _ _ _ hv20 hx55.sat) ?_
     rintro _ Fx31 _ wx55 hF31 hx56 ⟨as30, ns30, cs30, rfl, rfl, hs30⟩
     refine a0r (hx56.sh hF31 [1, 2, 3, 4, 5, 6, 7, 8] (by decide) rfl) ?_
     refine a0y 2 rfl (by kernel_rfl) ?_
     obtain ⟨v28, hv21, hb3⟩ := bind_some hb3
     refine a0i ent29 rfl rfl rfl rfl hx56 (a2s _ _ _ _ hv21 hx56.sat (SlR.nil _ _) hs30) ?_
     rintro _ Fx32 _ wx56 hF32 hx57 ⟨as31, ns31, cs31, xss31, rfl, rfl, hs31⟩
     refine a0r (hx57.sh (hF31.trans hF32) [2, 3, 4, 5, 6, 7, 8, 9] (by decide) rfl) ?_
     refine a0y 3 rfl (by kernel_rfl) ?_
     obtain ⟨Fx33, hF33, hx58, hsx6⟩ := a1b hx57 (i := 0) rfl hs31
     obtain ⟨v29, hv22, hb3⟩ := bind_some hb3
     refine a0i ent28 rfl rfl rfl rfl hx58 (a1r _ _ _ _ hv22 hx58.sat hsx6) ?_
     rintro _ Fx34 _ wx57 hF34 hx59 ⟨as32, ns32, cs32, rfl, rfl, hs32⟩
     refine a0r (hx59.sh (((hF31.trans hF32).trans hF33).trans hF34) [1, 2, 3, 4, 5, 6, 7, 8] (by decide) rfl) ?_
     refine a0y 4 rfl (by kernel_rfl) ?_
     obtain ⟨v30, hv23, hb3⟩ := bind_some hb3
     refine a0i ent30 rfl rfl rfl rfl hx59 (a2z _ _ _ hv23 hx59.sat) ?_
     rintro _ Fx35 _ wx58 hF35 hx60 ⟨as33, ns33, cs33, rfl, rfl, hs33⟩
     refine a0r (hx60.sh ((((hF31.trans hF32).trans hF33).trans hF34).trans hF35) [1, 2, 3, 4, 5, 6, 7, 8] (by decide) rfl) ?_
     refine a0y 6 rfl (by kernel_rfl) ?_
     refine a1p (e := 24) (cs := [.int .i64 v29.Op, .int .i64 v29.N, vs v29.Name, .slice as32 ns32 cs32, .int .i64 v30.Op, .int .i64 v30.N, vs v30.Name, .slice as33 ns33 cs33, .int .i64 v9.Op, .int .i64 v9.N, vs v9.Name, .slice as16 ns16 cs16]) (q := 4) rfl rfl hx60 rfl (fun _ => by kernel_rfl) rfl rfl ?_
     intro b17 wx59 hx61
     refine a0r (hx61.sh ((((hF31.trans hF32).trans hF33).trans hF34).trans hF35) [2, 3, 4, 5, 6, 7, 8, 9] (by decide) rfl) ?_
     refine a0y 7 rfl (by kernel_rfl) ?_
     obtain ⟨Fx36, hF36, hx62, hsx7⟩ := a1b hx61 (i := 0) rfl ((show RowN rp_Expr Fx35 3 [.int .i64 v29.Op, .int .i64 v29.N, vs v29.Name, .slice as32 ns32 cs32, .int .i64 v30.Op, .int .i64 v30.N, vs v30.Name, .slice as33 ns33 cs33, .int .i64 v9.Op, .int .i64 v9.N, vs v9.Name, .slice as16 ns16 cs16] [v29, v30, v9] from ⟨rfl, ⟨_, _, rfl, (expr_iff.2 ⟨as32, ns32, cs32, rfl, (hs32.mono hF35)⟩), ⟨_, _, rfl, (expr_iff.2 ⟨as33, ns33, cs33, rfl, hs33⟩), ⟨_, _, rfl, (expr_iff.2 ⟨as16, ns16, cs16, rfl, (((((hs16.mono hF31).mono hF32).mono hF33).mono hF34).mono hF35)⟩), (rfl : RowR rp_Expr _ [] [])⟩⟩⟩⟩))
     obtain ⟨v31, hv24, hb3⟩ := bind_some hb3
     refine a0i ent28 rfl rfl rfl rfl hx62 (a1r _ _ _ _ hv24 hx62.sat hsx7) ?_
     rintro _ Fx37 _ wx60 hF37 hx63 ⟨as34, ns34, cs34, rfl, rfl, hs34⟩
     refine a0r (hx63.sh ((((((hF31.trans hF32).trans hF33).trans hF34).trans hF35).trans hF36).trans hF37) [1, 2, 3, 4, 5, 6, 7, 8] (by decide) rfl) ?_
     refine a0y 9 rfl (by kernel_rfl) ?_
     refine a0q sz24 rfl hx63 rfl rfl rfl rfl (i := 0) rfl rfl rfl rfl ?_
     intro wx61 hx64
     refine a0r (hx64.sh ((((((hF31.trans hF32).trans hF33).trans hF34).trans hF35).trans hF36).trans hF37) [1, 2, 3, 4, 5, 6, 7, 8] (by decide) rfl) ?_
     refine a2u (by kernel_rfl) ?_
     refine a0n (fun a ha => ?_)
     cases hb3
     exact ⟨_, b16, as34, ns34, cs34, ((((((hF31.trans hF32).trans hF33).trans hF34).trans hF35).trans hF36).trans hF37), hx64.pick [0, 1, 2, 3, 4, 5, 6, 7, 8] (by decide) rfl, hs34, ha.cut (l := [3, 5, 8, 9, 11, 12, 14]) rfl⟩
  ·clear hm
   refine a2j (SH Fx5 [.box b6 37 [.int .i64 f1, .slice as7 ns7 cs7, .int .i64 f3, .slice as8 ns8 cs8], .box b5 24 [.int .i64 2, .int .i64 0, vs [], .slice none 0 0], .box b4 24 [.int .i64 4, .int .i64 0, vs [112, 97, 112, 101, 114], .slice none 0 0], .box b2 37 [.int .i64 v2.1.P.Sign, .slice as3 ns3 cs3, .int .i64 v2.1.Q.Sign, .slice as4 ns4 cs4], .box b1 37 [.int .i64 v1.1.P.Sign, .slice as1 ns1 cs1, .int .i64 v1.1.Q.Sign, .slice as2 ns2 cs2]]) 9 rfl (by kernel_rfl) hx15 ?_
   intro wx62 hx65
   refine d_tk 0 rfl (by kernel_rfl) rfl rfl rfl rfl (hx65.sh (Frz.refl _) [0, 1, 2, 3, 4] (by decide) rfl) (fun _ _ _ _ hq => a0l ag24 sz24 rfl rfl hq rfl (i := 2) rfl rfl (a0c (qq rfl))) ?_
   refine d_tk 2 rfl (by kernel_rfl) rfl rfl rfl rfl (hx65.sh (Frz.refl _) [0, 1, 2, 3, 4] (by decide) rfl) (fun _ _ _ _ hq => a0l ag24 sz24 rfl rfl hq rfl (i := 1) rfl rfl (a0c (qq rfl))) ?_
   refine b0e 1 7 rfl rfl (by kernel_rfl) ?_ ?_
   ·obtain ⟨v32, hv25, hb2⟩ := bind_some hb2
    refine a0i ent30 rfl rfl rfl rfl hx65 (a2z _ _ _ hv25 hx65.sat) ?_
    rintro _ Fx38 _ wx63 hF38 hx66 ⟨as35, ns35, cs35, rfl, rfl, hs35⟩
    refine a0r (hx66.sh hF38 [0, 1, 2, 3, 4] (by decide) rfl) ?_
    refine b0e 3 7 rfl rfl (by kernel_rfl) ?_ ?_
    ·obtain ⟨v33, hv26, hb2⟩ := bind_some hb2
     refine a0i ent29 rfl rfl rfl rfl hx66 (a2s _ _ _ _ hv26 hx66.sat hs35 (SlR.nil _ _)) ?_
     rintro _ Fx39 _ wx64 hF39 hx67 ⟨as36, ns36, cs36, xss36, rfl, rfl, hs36⟩
     refine a0r (hx67.sh (hF38.trans hF39) [1, 2, 3, 4, 5] (by decide) rfl) ?_
     refine b0e 4 7 rfl rfl (by kernel_rfl) ?_ ?_
     ·obtain ⟨Fx40, hF40, hx68, hsx8⟩ := a1b hx67 (i := 0) rfl hs36
      obtain ⟨v34, hv27, hb2⟩ := bind_some hb2
      refine a0i ent28 rfl rfl rfl rfl hx68 (a1r _ _ _ _ hv27 hx68.sat hsx8) ?_
      rintro _ Fx41 _ wx65 hF41 hx69 ⟨as37, ns37, cs37, rfl, rfl, hs37⟩
      refine a0r (hx69.sh (((hF38.trans hF39).trans hF40).trans hF41) [0, 1, 2, 3, 4] (by decide) rfl) ?_
      refine b0e 5 7 rfl rfl (by kernel_rfl) ?_ ?_
      ·obtain ⟨v35, hv28, hb2⟩ := bind_some hb2
       refine a0i ent29 rfl rfl rfl rfl hx69 (a2s _ _ _ _ hv28 hx69.sat (SlR.nil _ _) hs37) ?_
       rintro _ Fx42 _ wx66 hF42 hx70 ⟨as38, ns38, cs38, xss38, rfl, rfl, hs38⟩
       refine a0r (hx70.sh ((((hF38.trans hF39).trans hF40).trans hF41).trans hF42) [1, 2, 3, 4, 5] (by decide) rfl) ?_
       refine b0e 6 7 rfl rfl (by kernel_rfl) ?_ ?_
       ·obtain ⟨Fx43, hF43, hx71, hsx9⟩ := a1b hx70 (i := 0) rfl hs38
        obtain ⟨v36, hv29, hb2⟩ := bind_some hb2
        refine a0i ent28 rfl rfl rfl rfl hx71 (a1r _ _ _ _ hv29 hx71.sat hsx9) ?_
        rintro _ Fx44 _ wx67 hF44 hx72 ⟨as39, ns39, cs39, rfl, rfl, hs39⟩
        refine a0r (hx72.sh ((((((hF38.trans hF39).trans hF40).trans hF41).trans hF42).trans hF43).trans hF44) [0, 1, 2, 3, 4] (by decide) rfl) ?_
        refine a0y 7 rfl (by kernel_rfl) ?_
        refine a1f ze24 rfl rfl rfl hx72 ?_
        intro b18 wx68 hx73
        refine a0r (hx73.sh ((((((hF38.trans hF39).trans hF40).trans hF41).trans hF42).trans hF43).trans hF44) [1, 2, 3, 4, 5] (by decide) rfl) ?_
        refine a0y 8 rfl (by kernel_rfl) ?_
        refine a0q sz24 rfl hx73 rfl rfl rfl rfl (i := 0) rfl rfl rfl rfl ?_
        intro wx69 hx74
        refine a0r (hx74.sh ((((((hF38.trans hF39).trans hF40).trans hF41).trans hF42).trans hF43).trans hF44) [1, 2, 3, 4, 5] (by decide) rfl) ?_
        refine a2u (by kernel_rfl) ?_
        refine a0n (fun a ha => ?_)
        cases hb2
        exact ⟨_, b18, as39, ns39, cs39, ((((((hF38.trans hF39).trans hF40).trans hF41).trans hF42).trans hF43).trans hF44), hx74.pick [0, 1, 2, 3, 4, 5] (by decide) rfl, hs39, ha.cut (l := [3, 5, 7, 8, 9, 10]) rfl⟩
       ·refine a1f ze24 rfl rfl rfl hx70 ?_
        intro b18 wx67 hx71
        refine a0r (hx71.sh ((((hF38.trans hF39).trans hF40).trans hF41).trans hF42) [2, 3, 4, 5, 6] (by decide) rfl) ?_
        refine a0y 6 rfl (by kernel_rfl) ?_
        obtain ⟨Fx43, hF43, hx72, hsx9⟩ := a1b hx71 (i := 1) rfl hs38
        obtain ⟨v36, hv29, hb2⟩ := bind_some hb2
        refine a0i ent28 rfl rfl rfl rfl hx72 (a1r _ _ _ _ hv29 hx72.sat hsx9) ?_
        rintro _ Fx44 _ wx68 hF44 hx73 ⟨as39, ns39, cs39, rfl, rfl, hs39⟩
        refine a0r (hx73.sh ((((((hF38.trans hF39).trans hF40).trans hF41).trans hF42).trans hF43).trans hF44) [1, 2, 3, 4, 5] (by decide) rfl) ?_
        refine a0y 8 rfl (by kernel_rfl) ?_
        refine a0q sz24 rfl hx73 rfl rfl rfl rfl (i := 0) rfl rfl rfl rfl ?_
        intro wx69 hx74
        refine a0r (hx74.sh ((((((hF38.trans hF39).trans hF40).trans hF41).trans hF42).trans hF43).trans hF44) [1, 2, 3, 4, 5] (by decide) rfl) ?_
        refine a2u (by kernel_rfl) ?_
        refine a0n (fun a ha => ?_)
        cases hb2
        exact ⟨_, b18, as39, ns39, cs39, ((((((hF38.trans hF39).trans hF40).trans hF41).trans hF42).trans hF43).trans hF44), hx74.pick [0, 1, 2, 3, 4, 5] (by decide) rfl, hs39, ha.cut (l := [3, 5, 7, 8, 9, 10]) rfl⟩
      ·refine a1f ze24 rfl rfl rfl hx69 ?_
       intro b18 wx66 hx70
       refine a0r (hx70.sh (((hF38.trans hF39).trans hF40).trans hF41) [1, 2, 3, 4, 5] (by decide) rfl) ?_
       refine a0y 5 rfl (by kernel_rfl) ?_
       obtain ⟨v35, hv28, hb2⟩ := bind_some hb2
       refine a0i ent29 rfl rfl rfl rfl hx70 (a2s _ _ _ _ hv28 hx70.sat (SlR.nil _ _) hs37) ?_
       rintro _ Fx42 _ wx67 hF42 hx71 ⟨as38, ns38, cs38, xss38, rfl, rfl, hs38⟩
       refine a0r (hx71.sh ((((hF38.trans hF39).trans hF40).trans hF41).trans hF42) [2, 3, 4, 5, 6] (by decide) rfl) ?_
       refine a0y 6 rfl (by kernel_rfl) ?_
       obtain ⟨Fx43, hF43, hx72, hsx9⟩ := a1b hx71 (i := 0) rfl hs38
       obtain ⟨v36, hv29, hb2⟩ := bind_some hb2
       refine a0i ent28 rfl rfl rfl rfl hx72 (a1r _ _ _ _ hv29 hx72.sat hsx9) ?_
       rintro _ Fx44 _ wx68 hF44 hx73 ⟨as39, ns39, cs39, rfl, rfl, hs39⟩
       refine a0r (hx73.sh ((((((hF38.trans hF39).trans hF40).trans hF41).trans hF42).trans hF43).trans hF44) [1, 2, 3, 4, 5] (by decide) rfl) ?_
       refine a0y 8 rfl (by kernel_rfl) ?_
       refine a0q sz24 rfl hx73 rfl rfl rfl rfl (i := 0) rfl rfl rfl rfl ?_
       intro wx69 hx74
       refine a0r (hx74.sh ((((((hF38.trans hF39).trans hF40).trans hF41).trans hF42).trans hF43).trans hF44) [1, 2, 3, 4, 5] (by decide) rfl) ?_
       refine a2u (by kernel_rfl) ?_
       refine a0n (fun a ha => ?_)
       cases hb2
       exact ⟨_, b18, as39, ns39, cs39, ((((((hF38.trans hF39).trans hF40).trans hF41).trans hF42).trans hF43).trans hF44), hx74.pick [0, 1, 2, 3, 4, 5] (by decide) rfl, hs39, ha.cut (l := [3, 5, 7, 8, 9, 10]) rfl⟩
     ·refine a1f ze24 rfl rfl rfl hx67 ?_
      intro b18 wx65 hx68
      refine a0r (hx68.sh (hF38.trans hF39) [2, 3, 4, 5, 6] (by decide) rfl) ?_
      refine a0y 4 rfl (by kernel_rfl) ?_
      obtain ⟨Fx40, hF40, hx69, hsx8⟩ := a1b hx68 (i := 1) rfl hs36
      obtain ⟨v34, hv27, hb2⟩ := bind_some hb2
      refine a0i ent28 rfl rfl rfl rfl hx69 (a1r _ _ _ _ hv27 hx69.sat hsx8) ?_
      rintro _ Fx41 _ wx66 hF41 hx70 ⟨as37, ns37, cs37, rfl, rfl, hs37⟩
      refine a0r (hx70.sh (((hF38.trans hF39).trans hF40).trans hF41) [1, 2, 3, 4, 5] (by decide) rfl) ?_
      refine a0y 5 rfl (by kernel_rfl) ?_
      obtain ⟨v35, hv28, hb2⟩ := bind_some hb2
      refine a0i ent29 rfl rfl rfl rfl hx70 (a2s _ _ _ _ hv28 hx70.sat (SlR.nil _ _) hs37) ?_
      rintro _ Fx42 _ wx67 hF42 hx71 ⟨as38, ns38, cs38, xss38, rfl, rfl, hs38⟩
      refine a0r (hx71.sh ((((hF38.trans hF39).trans hF40).trans hF41).trans hF42) [2, 3, 4, 5, 6] (by decide) rfl) ?_
      refine a0y 6 rfl (by kernel_rfl) ?_
      obtain ⟨Fx43, hF43, hx72, hsx9⟩ := a1b hx71 (i := 0) rfl hs38
      obtain ⟨v36, hv29, hb2⟩ := bind_some hb2
      refine a0i ent28 rfl rfl rfl rfl hx72 (a1r _ _ _ _ hv29 hx72.sat hsx9) ?_
      rintro _ Fx44 _ wx68 hF44 hx73 ⟨as39, ns39, cs39, rfl, rfl, hs39⟩
      refine a0r (hx73.sh ((((((hF38.trans hF39).trans hF40).trans hF41).trans hF42).trans hF43).trans hF44) [1, 2, 3, 4, 5] (by decide) rfl) ?_
      refine a0y 8 rfl (by kernel_rfl) ?_
      refine a0q sz24 rfl hx73 rfl rfl rfl rfl (i := 0) rfl rfl rfl rfl ?_
      intro wx69 hx74
      refine a0r (hx74.sh ((((((hF38.trans hF39).trans hF40).trans hF41).trans hF42).trans hF43).trans hF44) [1, 2, 3, 4, 5] (by decide) rfl) ?_
      refine a2u (by kernel_rfl) ?_
      refine a0n (fun a ha => ?_)
      cases hb2
      exact ⟨_, b18, as39, ns39, cs39, ((((((hF38.trans hF39).trans hF40).trans hF41).trans hF42).trans hF43).trans hF44), hx74.pick [0, 1, 2, 3, 4, 5] (by decide) rfl, hs39, ha.cut (l := [3, 5, 7, 8, 9, 10]) rfl⟩
    ·refine a1f ze24 rfl rfl rfl hx66 ?_
     intro b18 wx64 hx67
     refine a0r (hx67.sh hF38 [1, 2, 3, 4, 5] (by decide) rfl) ?_
     refine a0y 3 rfl (by kernel_rfl) ?_
     obtain ⟨v33, hv26, hb2⟩ := bind_some hb2
     refine a0i ent29 rfl rfl rfl rfl hx67 (a2s _ _ _ _ hv26 hx67.sat hs35 (SlR.nil _ _)) ?_
     rintro _ Fx39 _ wx65 hF39 hx68 ⟨as36, ns36, cs36, xss36, rfl, rfl, hs36⟩
     refine a0r (hx68.sh (hF38.trans hF39) [2, 3, 4, 5, 6] (by decide) rfl) ?_
     refine a0y 4 rfl (by kernel_rfl) ?_
     obtain ⟨Fx40, hF40, hx69, hsx8⟩ := a1b hx68 (i := 0) rfl hs36
     obtain ⟨v34, hv27, hb2⟩ := bind_some hb2
     refine a0i ent28 rfl rfl rfl rfl hx69 (a1r _ _ _ _ hv27 hx69.sat hsx8) ?_
     rintro _ Fx41 _ wx66 hF41 hx70 ⟨as37, ns37, cs37, rfl, rfl, hs37⟩
     refine a0r (hx70.sh (((hF38.trans hF39).trans hF40).trans hF41) [1, 2, 3, 4, 5] (by decide) rfl) ?_
     refine a0y 5 rfl (by kernel_rfl) ?_
     obtain ⟨v35, hv28, hb2⟩ := bind_some hb2
     refine a0i ent29 rfl rfl rfl rfl hx70 (a2s _ _ _ _ hv28 hx70.sat (SlR.nil _ _) hs37) ?_
     rintro _ Fx42 _ wx67 hF42 hx71 ⟨as38, ns38, cs38, xss38, rfl, rfl, hs38⟩
     refine a0r (hx71.sh ((((hF38.trans hF39).trans hF40).trans hF41).trans hF42) [2, 3, 4, 5, 6] (by decide) rfl) ?_
     refine a0y 6 rfl (by kernel_rfl) ?_
     obtain ⟨Fx43, hF43, hx72, hsx9⟩ := a1b hx71 (i := 0) rfl hs38
     obtain ⟨v36, hv29, hb2⟩ := bind_some hb2
     refine a0i ent28 rfl rfl rfl rfl hx72 (a1r _ _ _ _ hv29 hx72.sat hsx9) ?_
     rintro _ Fx44 _ wx68 hF44 hx73 ⟨as39, ns39, cs39, rfl, rfl, hs39⟩
     refine a0r (hx73.sh ((((((hF38.trans hF39).trans hF40).trans hF41).trans hF42).trans hF43).trans hF44) [1, 2, 3, 4, 5] (by decide) rfl) ?_
     refine a0y 8 rfl (by kernel_rfl) ?_
     refine a0q sz24 rfl hx73 rfl rfl rfl rfl (i := 0) rfl rfl rfl rfl ?_
     intro wx69 hx74
     refine a0r (hx74.sh ((((((hF38.trans hF39).trans hF40).trans hF41).trans hF42).trans hF43).trans hF44) [1, 2, 3, 4, 5] (by decide) rfl) ?_
     refine a2u (by kernel_rfl) ?_
     refine a0n (fun a ha => ?_)
     cases hb2
     exact ⟨_, b18, as39, ns39, cs39, ((((((hF38.trans hF39).trans hF40).trans hF41).trans hF42).trans hF43).trans hF44), hx74.pick [0, 1, 2, 3, 4, 5] (by decide) rfl, hs39, ha.cut (l := [3, 5, 7, 8, 9, 10]) rfl⟩
   ·refine a1f ze24 rfl rfl rfl hx65 ?_
    intro b18 wx63 hx66
    refine a0r (hx66.sh (Frz.refl _) [1, 2, 3, 4, 5] (by decide) rfl) ?_
    refine a0y 1 rfl (by kernel_rfl) ?_
    obtain ⟨v32, hv25, hb2⟩ := bind_some hb2
    refine a0i ent30 rfl rfl rfl rfl hx66 (a2z _ _ _ hv25 hx66.sat) ?_
    rintro _ Fx38 _ wx64 hF38 hx67 ⟨as35, ns35, cs35, rfl, rfl, hs35⟩
    refine a0r (hx67.sh hF38 [1, 2, 3, 4, 5] (by decide) rfl) ?_
    refine a0y 3 rfl (by kernel_rfl) ?_
    obtain ⟨v33, hv26, hb2⟩ := bind_some hb2
    refine a0i ent29 rfl rfl rfl rfl hx67 (a2s _ _ _ _ hv26 hx67.sat hs35 (SlR.nil _ _)) ?_
    rintro _ Fx39 _ wx65 hF39 hx68 ⟨as36, ns36, cs36, xss36, rfl, rfl, hs36⟩
    refine a0r (hx68.sh (hF38.trans hF39) [2, 3, 4, 5, 6] (by decide) rfl) ?_
    refine a0y 4 rfl (by kernel_rfl) ?_
    obtain ⟨Fx40, hF40, hx69, hsx8⟩ := a1b hx68 (i := 0) rfl hs36
    obtain ⟨v34, hv27, hb2⟩ := bind_some hb2
    refine a0i ent28 rfl rfl rfl rfl hx69 (a1r _ _ _ _ hv27 hx69.sat hsx8) ?_
    rintro _ Fx41 _ wx66 hF41 hx70 ⟨as37, ns37, cs37, rfl, rfl, hs37⟩
    refine a0r (hx70.sh (((hF38.trans hF39).trans hF40).trans hF41) [1, 2, 3, 4, 5] (by decide) rfl) ?_
    refine a0y 5 rfl (by kernel_rfl) ?_
    obtain ⟨v35, hv28, hb2⟩ := bind_some hb2
    refine a0i ent29 rfl rfl rfl rfl hx70 (a2s _ _ _ _ hv28 hx70.sat (SlR.nil _ _) hs37) ?_
    rintro _ Fx42 _ wx67 hF42 hx71 ⟨as38, ns38, cs38, xss38, rfl, rfl, hs38⟩
    refine a0r (hx71.sh ((((hF38.trans hF39).trans hF40).trans hF41).trans hF42) [2, 3, 4, 5, 6] (by decide) rfl) ?_
    refine a0y 6 rfl (by kernel_rfl) ?_
    obtain ⟨Fx43, hF43, hx72, hsx9⟩ := a1b hx71 (i := 0) rfl hs38
    obtain ⟨v36, hv29, hb2⟩ := bind_some hb2
    refine a0i ent28 rfl rfl rfl rfl hx72 (a1r _ _ _ _ hv29 hx72.sat hsx9) ?_
    rintro _ Fx44 _ wx68 hF44 hx73 ⟨as39, ns39, cs39, rfl, rfl, hs39⟩
    refine a0r (hx73.sh ((((((hF38.trans hF39).trans hF40).trans hF41).trans hF42).trans hF43).trans hF44) [1, 2, 3, 4, 5] (by decide) rfl) ?_
    refine a0y 8 rfl (by kernel_rfl) ?_
    refine a0q sz24 rfl hx73 rfl rfl rfl rfl (i := 0) rfl rfl rfl rfl ?_
    intro wx69 hx74
    refine a0r (hx74.sh ((((((hF38.trans hF39).trans hF40).trans hF41).trans hF42).trans hF43).trans hF44) [1, 2, 3, 4, 5] (by decide) rfl) ?_
    refine a2u (by kernel_rfl) ?_
    refine a0n (fun a ha => ?_)
    cases hb2
    exact ⟨_, b18, as39, ns39, cs39, ((((((hF38.trans hF39).trans hF40).trans hF41).trans hF42).trans hF43).trans hF44), hx74.pick [0, 1, 2, 3, 4, 5] (by decide) rfl, hs39, ha.cut (l := [3, 5, 7, 8, 9, 10]) rfl⟩
 ·clear hm
  refine a2j (SH Fx4 [.box b5 24 [.int .i64 2, .int .i64 0, vs [], .slice none 0 0], .box b4 24 [.int .i64 4, .int .i64 0, vs [112, 97, 112, 101, 114], .slice none 0 0], .box b2 37 [.int .i64 v2.1.P.Sign, .slice as3 ns3 cs3, .int .i64 v2.1.Q.Sign, .slice as4 ns4 cs4], .box b1 37 [.int .i64 v1.1.P.Sign, .slice as1 ns1 cs1, .int .i64 v1.1.Q.Sign, .slice as2 ns2 cs2]]) 12 rfl (by kernel_rfl) hx14 ?_
  intro wx70 hx75
  refine d_tk 0 rfl (by kernel_rfl) rfl rfl rfl rfl (hx75.sh (Frz.refl _) [0, 1, 2, 3] (by decide) rfl) (fun _ _ _ _ hq => a0l ag24 sz24 rfl rfl hq rfl (i := 1) rfl rfl (a0c (qq rfl))) ?_
  refine d_tk 4 rfl (by kernel_rfl) rfl rfl rfl rfl (hx75.sh (Frz.refl _) [0, 1, 2, 3] (by decide) rfl) (fun _ _ _ _ _ => a0e rfl rfl rfl (a0c (qq rfl))) ?_
  refine b0e 1 9 rfl rfl (by kernel_rfl) ?_ ?_
  ·obtain ⟨v37, hv30, hb1⟩ := bind_some hb1
   refine a0i ent30 rfl rfl rfl rfl hx75 (a2z _ _ _ hv30 hx75.sat) ?_
   rintro _ Fx45 _ wx71 hF45 hx76 ⟨as40, ns40, cs40, rfl, rfl, hs40⟩
   refine a0r (hx76.sh hF45 [0, 1, 2, 3] (by decide) rfl) ?_
   refine b0e 2 9 rfl rfl (by kernel_rfl) ?_ ?_
   ·obtain ⟨v38, hv31, hb1⟩ := bind_some hb1
    refine a0i ent29 rfl rfl rfl rfl hx76 (a2s _ _ _ _ hv31 hx76.sat (SlR.nil _ _) hs40) ?_
    rintro _ Fx46 _ wx72 hF46 hx77 ⟨as41, ns41, cs41, xss41, rfl, rfl, hs41⟩
    refine a0r (hx77.sh (hF45.trans hF46) [1, 2, 3, 4] (by decide) rfl) ?_
    refine b0e 3 9 rfl rfl (by kernel_rfl) ?_ ?_
    ·obtain ⟨Fx47, hF47, hx78, hsx10⟩ := a1b hx77 (i := 0) rfl hs41
     obtain ⟨v39, hv32, hb1⟩ := bind_some hb1
     refine a0i ent28 rfl rfl rfl rfl hx78 (a1r _ _ _ _ hv32 hx78.sat hsx10) ?_
     rintro _ Fx48 _ wx73 hF48 hx79 ⟨as42, ns42, cs42, rfl, rfl, hs42⟩
     refine a0r (hx79.sh (((hF45.trans hF46).trans hF47).trans hF48) [0, 1, 2, 3] (by decide) rfl) ?_
     refine b0e 5 9 rfl rfl (by kernel_rfl) ?_ ?_
     ·have hG9 := ((hF45.trans hF46).trans hF47).trans hF48
      obtain ⟨v40, hv33, hb1⟩ := bind_some hb1
      refine a0i ent27 rfl rfl rfl rfl hx79 (a4z _ _ _ _ hv33 hx79.sat hs42 (hsx1.mono hG9)) ?_
      rintro _ Fx49 _ wx74 hF49 hx80 ⟨as43, ns43, cs43, as44, ns44, cs44, rfl, rfl, hs43, hs44⟩
      refine a0r (hx80.sh ((((hF45.trans hF46).trans hF47).trans hF48).trans hF49) [0, 1, 2, 3] (by decide) rfl) ?_
      refine d_tk 6 rfl (by kernel_rfl) rfl rfl rfl rfl (hx80.sh ((((hF45.trans hF46).trans hF47).trans hF48).trans hF49) [0, 1, 2, 3] (by decide) rfl) (fun _ _ _ _ _ => a0e rfl rfl rfl (a0c (qq rfl))) ?_
      refine d_tk 7 rfl (by kernel_rfl) rfl rfl rfl rfl (hx80.sh ((((hF45.trans hF46).trans hF47).trans hF48).trans hF49) [0, 1, 2, 3] (by decide) rfl) (fun _ _ _ _ _ => a0k rfl rfl rfl rfl (a0c (qq rfl))) ?_
      refine d_tk 8 rfl (by kernel_rfl) rfl rfl rfl rfl (hx80.sh ((((hF45.trans hF46).trans hF47).trans hF48).trans hF49) [0, 1, 2, 3] (by decide) rfl) (fun _ _ _ _ _ => a0k rfl rfl rfl rfl (a0c (qq rfl))) ?_
      refine a0y 9 rfl (by kernel_rfl) ?_
      refine a1f ze37 rfl rfl rfl hx80 ?_
      intro b19 wx75 hx81
      refine a0r (hx81.sh ((((hF45.trans hF46).trans hF47).trans hF48).trans hF49) [1, 2, 3, 4] (by decide) rfl) ?_
      refine a0y 10 rfl (by kernel_rfl) ?_
      refine a0q sz37 rfl hx81 rfl rfl rfl rfl (i := 0) rfl rfl rfl rfl ?_
      intro wx76 hx82
      refine a0r (hx82.sh ((((hF45.trans hF46).trans hF47).trans hF48).trans hF49) [1, 2, 3, 4] (by decide) rfl) ?_
      refine d_tk 11 rfl (by kernel_rfl) rfl rfl rfl rfl (hx82.sh ((((hF45.trans hF46).trans hF47).trans hF48).trans hF49) [1, 2, 3, 4] (by decide) rfl) (fun _ _ _ _ _ => a0b rfl rfl rfl (a0c (qq rfl))) ?_
      refine a2u (by kernel_rfl) ?_
      refine a0n (fun a ha => ?_)
      cases hb1
      exact ⟨_, b19, as43, ns43, cs43, as44, ns44, cs44, ((((hF45.trans hF46).trans hF47).trans hF48).trans hF49), hx82.pick [0, 1, 2, 3, 4] (by decide) rfl, hs43, hs44, ha.cut (l := [3, 5, 6, 7, 8, 9]) rfl⟩
     ·refine a1f ze37 rfl rfl rfl hx79 ?_
      intro b19 wx74 hx80
      refine a0r (hx80.sh (((hF45.trans hF46).trans hF47).trans hF48) [1, 2, 3, 4] (by decide) rfl) ?_
      refine a0y 5 rfl (by kernel_rfl) ?_
      have hG9 := ((hF45.trans hF46).trans hF47).trans hF48
      obtain ⟨v40, hv33, hb1⟩ := bind_some hb1
      refine a0i ent27 rfl rfl rfl rfl hx80 (a4z _ _ _ _ hv33 hx80.sat hs42 (hsx1.mono hG9)) ?_
      rintro _ Fx49 _ wx75 hF49 hx81 ⟨as43, ns43, cs43, as44, ns44, cs44, rfl, rfl, hs43, hs44⟩
      refine a0r (hx81.sh ((((hF45.trans hF46).trans hF47).trans hF48).trans hF49) [1, 2, 3, 4] (by decide) rfl) ?_
      refine d_tk 6 rfl (by kernel_rfl) rfl rfl rfl rfl (hx81.sh ((((hF45.trans hF46).trans hF47).trans hF48).trans hF49) [1, 2, 3, 4] (by decide) rfl) (fun _ _ _ _ _ => a0e rfl rfl rfl (a0c (qq rfl))) ?_
      refine d_tk 7 rfl (by kernel_rfl) rfl rfl rfl rfl (hx81.sh ((((hF45.trans hF46).trans hF47).trans hF48).trans hF49) [1, 2, 3, 4] (by decide) rfl) (fun _ _ _ _ _ => a0k rfl rfl rfl rfl (a0c (qq rfl))) ?_
      refine d_tk 8 rfl (by kernel_rfl) rfl rfl rfl rfl (hx81.sh ((((hF45.trans hF46).trans hF47).trans hF48).trans hF49) [1, 2, 3, 4] (by decide) rfl) (fun _ _ _ _ _ => a0k rfl rfl rfl rfl (a0c (qq rfl))) ?_
      refine a0y 10 rfl (by kernel_rfl) ?_
      refine a0q sz37 rfl hx81 rfl rfl rfl rfl (i := 0) rfl rfl rfl rfl ?_
      intro wx76 hx82
      refine a0r (hx82.sh ((((hF45.trans hF46).trans hF47).trans hF48).trans hF49) [1, 2, 3, 4] (by decide) rfl) ?_
      refine d_tk 11 rfl (by kernel_rfl) rfl rfl rfl rfl (hx82.sh ((((hF45.trans hF46).trans hF47).trans hF48).trans hF49) [1, 2, 3, 4] (by decide) rfl) (fun _ _ _ _ _ => a0b rfl rfl rfl (a0c (qq rfl))) ?_
      refine a2u (by kernel_rfl) ?_
      refine a0n (fun a ha => ?_)
      cases hb1
      exact ⟨_, b19, as43, ns43, cs43, as44, ns44, cs44, ((((hF45.trans hF46).trans hF47).trans hF48).trans hF49), hx82.pick [0, 1, 2, 3, 4] (by decide) rfl, hs43, hs44, ha.cut (l := [3, 5, 6, 7, 8, 9]) rfl⟩
    ·refine a1f ze37 rfl rfl rfl hx77 ?_
     intro b19 wx73 hx78
     refine a0r (hx78.sh (hF45.trans hF46) [2, 3, 4, 5] (by decide) rfl) ?_
     refine a0y 3 rfl (by kernel_rfl) ?_
     obtain ⟨Fx47, hF47, hx79, hsx10⟩ := a1b hx78 (i := 1) rfl hs41
     obtain ⟨v39, hv32, hb1⟩ := bind_some hb1
     refine a0i ent28 rfl rfl rfl rfl hx79 (a1r _ _ _ _ hv32 hx79.sat hsx10) ?_
     rintro _ Fx48 _ wx74 hF48 hx80 ⟨as42, ns42, cs42, rfl, rfl, hs42⟩
     refine a0r (hx80.sh (((hF45.trans hF46).trans hF47).trans hF48) [1, 2, 3, 4] (by decide) rfl) ?_
     refine a0y 5 rfl (by kernel_rfl) ?_
     have hG9 := ((hF45.trans hF46).trans hF47).trans hF48
     obtain ⟨v40, hv33, hb1⟩ := bind_some hb1
     refine a0i ent27 rfl rfl rfl rfl hx80 (a4z _ _ _ _ hv33 hx80.sat hs42 (hsx1.mono hG9)) ?_
     rintro _ Fx49 _ wx75 hF49 hx81 ⟨as43, ns43, cs43, as44, ns44, cs44, rfl, rfl, hs43, hs44⟩
     refine a0r (hx81.sh ((((hF45.trans hF46).trans hF47).trans hF48).trans hF49) [1, 2, 3, 4] (by decide) rfl) ?_
     refine d_tk 6 rfl (by kernel_rfl) rfl rfl rfl rfl (hx81.sh ((((hF45.trans hF46).trans hF47).trans hF48).trans hF49) [1, 2, 3, 4] (by decide) rfl) (fun _ _ _ _ _ => a0e rfl rfl rfl (a0c (qq rfl))) ?_
     refine d_tk 7 rfl (by kernel_rfl) rfl rfl rfl rfl (hx81.sh ((((hF45.trans hF46).trans hF47).trans hF48).trans hF49) [1, 2, 3, 4] (by decide) rfl) (fun _ _ _ _ _ => a0k rfl rfl rfl rfl (a0c (qq rfl))) ?_
     refine d_tk 8 rfl (by kernel_rfl) rfl rfl rfl rfl (hx81.sh ((((hF45.trans hF46).trans hF47).trans hF48).trans hF49) [1, 2, 3, 4] (by decide) rfl) (fun _ _ _ _ _ => a0k rfl rfl rfl rfl (a0c (qq rfl))) ?_
     refine a0y 10 rfl (by kernel_rfl) ?_
     refine a0q sz37 rfl hx81 rfl rfl rfl rfl (i := 0) rfl rfl rfl rfl ?_
     intro wx76 hx82
     refine a0r (hx82.sh ((((hF45.trans hF46).trans hF47).trans hF48).trans hF49) [1, 2, 3, 4] (by decide) rfl) ?_
     refine d_tk 11 rfl (by kernel_rfl) rfl rfl rfl rfl (hx82.sh ((((hF45.trans hF46).trans hF47).trans hF48).trans hF49) [1, 2, 3, 4] (by decide) rfl) (fun _ _ _ _ _ => a0b rfl rfl rfl (a0c (qq rfl))) ?_
     refine a2u (by kernel_rfl) ?_
     refine a0n (fun a ha => ?_)
     cases hb1
     exact ⟨_, b19, as43, ns43, cs43, as44, ns44, cs44, ((((hF45.trans hF46).trans hF47).trans hF48).trans hF49), hx82.pick [0, 1, 2, 3, 4] (by decide) rfl, hs43, hs44, ha.cut (l := [3, 5, 6, 7, 8, 9]) rfl⟩
   ·refine a1f ze37 rfl rfl rfl hx76 ?_
    intro b19 wx72 hx77
    refine a0r (hx77.sh hF45 [1, 2, 3, 4] (by decide) rfl) ?_
    refine a0y 2 rfl (by kernel_rfl) ?_
    obtain ⟨v38, hv31, hb1⟩ := bind_some hb1
    refine a0i ent29 rfl rfl rfl rfl hx77 (a2s _ _ _ _ hv31 hx77.sat (SlR.nil _ _) hs40) ?_
    rintro _ Fx46 _ wx73 hF46 hx78 ⟨as41, ns41, cs41, xss41, rfl, rfl, hs41⟩
    refine a0r (hx78.sh (hF45.trans hF46) [2, 3, 4, 5] (by decide) rfl) ?_
    refine a0y 3 rfl (by kernel_rfl) ?_
    obtain ⟨Fx47, hF47, hx79, hsx10⟩ := a1b hx78 (i := 0) rfl hs41
    obtain ⟨v39, hv32, hb1⟩ := bind_some hb1
    refine a0i ent28 rfl rfl rfl rfl hx79 (a1r _ _ _ _ hv32 hx79.sat hsx10) ?_
    rintro _ Fx48 _ wx74 hF48 hx80 ⟨as42, ns42, cs42, rfl, rfl, hs42⟩
    refine a0r (hx80.sh (((hF45.trans hF46).trans hF47).trans hF48) [1, 2, 3, 4] (by decide) rfl) ?_
    refine a0y 5 rfl (by kernel_rfl) ?_
    have hG9 := ((hF45.trans hF46).trans hF47).trans hF48
    obtain ⟨v40, hv33, hb1⟩ := bind_some hb1
    refine a0i ent27 rfl rfl rfl rfl hx80 (a4z _ _ _ _ hv33 hx80.sat hs42 (hsx1.mono hG9)) ?_
    rintro _ Fx49 _ wx75 hF49 hx81 ⟨as43, ns43, cs43, as44, ns44, cs44, rfl, rfl, hs43, hs44⟩
    refine a0r (hx81.sh ((((hF45.trans hF46).trans hF47).trans hF48).trans hF49) [1, 2, 3, 4] (by decide) rfl) ?_
    refine d_tk 6 rfl (by kernel_rfl) rfl rfl rfl rfl (hx81.sh ((((hF45.trans hF46).trans hF47).trans hF48).trans hF49) [1, 2, 3, 4] (by decide) rfl) (fun _ _ _ _ _ => a0e rfl rfl rfl (a0c (qq rfl))) ?_
    refine d_tk 7 rfl (by kernel_rfl) rfl rfl rfl rfl (hx81.sh ((((hF45.trans hF46).trans hF47).trans hF48).trans hF49) [1, 2, 3, 4] (by decide) rfl) (fun _ _ _ _ _ => a0k rfl rfl rfl rfl (a0c (qq rfl))) ?_
    refine d_tk 8 rfl (by kernel_rfl) rfl rfl rfl rfl (hx81.sh ((((hF45.trans hF46).trans hF47).trans hF48).trans hF49) [1, 2, 3, 4] (by decide) rfl) (fun _ _ _ _ _ => a0k rfl rfl rfl rfl (a0c (qq rfl))) ?_
    refine a0y 10 rfl (by kernel_rfl) ?_
    refine a0q sz37 rfl hx81 rfl rfl rfl rfl (i := 0) rfl rfl rfl rfl ?_
    intro wx76 hx82
    refine a0r (hx82.sh ((((hF45.trans hF46).trans hF47).trans hF48).trans hF49) [1, 2, 3, 4] (by decide) rfl) ?_
    refine d_tk 11 rfl (by kernel_rfl) rfl rfl rfl rfl (hx82.sh ((((hF45.trans hF46).trans hF47).trans hF48).trans hF49) [1, 2, 3, 4] (by decide) rfl) (fun _ _ _ _ _ => a0b rfl rfl rfl (a0c (qq rfl))) ?_
    refine a2u (by kernel_rfl) ?_
    refine a0n (fun a ha => ?_)
    cases hb1
    exact ⟨_, b19, as43, ns43, cs43, as44, ns44, cs44, ((((hF45.trans hF46).trans hF47).trans hF48).trans hF49), hx82.pick [0, 1, 2, 3, 4] (by decide) rfl, hs43, hs44, ha.cut (l := [3, 5, 6, 7, 8, 9]) rfl⟩
  ·refine a1f ze37 rfl rfl rfl hx75 ?_
   intro b19 wx71 hx76
   refine a0r (hx76.sh (Frz.refl _) [1, 2, 3, 4] (by decide) rfl) ?_
   refine a0y 1 rfl (by kernel_rfl) ?_
   obtain ⟨v37, hv30, hb1⟩ := bind_some hb1
   refine a0i ent30 rfl rfl rfl rfl hx76 (a2z _ _ _ hv30 hx76.sat) ?_
   rintro _ Fx45 _ wx72 hF45 hx77 ⟨as40, ns40, cs40, rfl, rfl, hs40⟩
   refine a0r (hx77.sh hF45 [1, 2, 3, 4] (by decide) rfl) ?_
   refine a0y 2 rfl (by kernel_rfl) ?_
   obtain ⟨v38, hv31, hb1⟩ := bind_some hb1
   refine a0i ent29 rfl rfl rfl rfl hx77 (a2s _ _ _ _ hv31 hx77.sat (SlR.nil _ _) hs40) ?_
   rintro _ Fx46 _ wx73 hF46 hx78 ⟨as41, ns41, cs41, xss41, rfl, rfl, hs41⟩
   refine a0r (hx78.sh (hF45.trans hF46) [2, 3, 4, 5] (by decide) rfl) ?_
   refine a0y 3 rfl (by kernel_rfl) ?_
   obtain ⟨Fx47, hF47, hx79, hsx10⟩ := a1b hx78 (i := 0) rfl hs41
   obtain ⟨v39, hv32, hb1⟩ := bind_some hb1
   refine a0i ent28 rfl rfl rfl rfl hx79 (a1r _ _ _ _ hv32 hx79.sat hsx10) ?_
   rintro _ Fx48 _ wx74 hF48 hx80 ⟨as42, ns42, cs42, rfl, rfl, hs42⟩
   refine a0r (hx80.sh (((hF45.trans hF46).trans hF47).trans hF48) [1, 2, 3, 4] (by decide) rfl) ?_
   refine a0y 5 rfl (by kernel_rfl) ?_
   have hG9 := ((hF45.trans hF46).trans hF47).trans hF48
   obtain ⟨v40, hv33, hb1⟩ := bind_some hb1
   refine a0i ent27 rfl rfl rfl rfl hx80 (a4z _ _ _ _ hv33 hx80.sat hs42 (hsx1.mono hG9)) ?_
   rintro _ Fx49 _ wx75 hF49 hx81 ⟨as43, ns43, cs43, as44, ns44, cs44, rfl, rfl, hs43, hs44⟩
   refine a0r (hx81.sh ((((hF45.trans hF46).trans hF47).trans hF48).trans hF49) [1, 2, 3, 4] (by decide) rfl) ?_
   refine d_tk 6 rfl (by kernel_rfl) rfl rfl rfl rfl (hx81.sh ((((hF45.trans hF46).trans hF47).trans hF48).trans hF49) [1, 2, 3, 4] (by decide) rfl) (fun _ _ _ _ _ => a0e rfl rfl rfl (a0c (qq rfl))) ?_
   refine d_tk 7 rfl (by kernel_rfl) rfl rfl rfl rfl (hx81.sh ((((hF45.trans hF46).trans hF47).trans hF48).trans hF49) [1, 2, 3, 4] (by decide) rfl) (fun _ _ _ _ _ => a0k rfl rfl rfl rfl (a0c (qq rfl))) ?_
   refine d_tk 8 rfl (by kernel_rfl) rfl rfl rfl rfl (hx81.sh ((((hF45.trans hF46).trans hF47).trans hF48).trans hF49) [1, 2, 3, 4] (by decide) rfl) (fun _ _ _ _ _ => a0k rfl rfl rfl rfl (a0c (qq rfl))) ?_
   refine a0y 10 rfl (by kernel_rfl) ?_
   refine a0q sz37 rfl hx81 rfl rfl rfl rfl (i := 0) rfl rfl rfl rfl ?_
   intro wx76 hx82
   refine a0r (hx82.sh ((((hF45.trans hF46).trans hF47).trans hF48).trans hF49) [1, 2, 3, 4] (by decide) rfl) ?_
   refine d_tk 11 rfl (by kernel_rfl) rfl rfl rfl rfl (hx82.sh ((((hF45.trans hF46).trans hF47).trans hF48).trans hF49) [1, 2, 3, 4] (by decide) rfl) (fun _ _ _ _ _ => a0b rfl rfl rfl (a0c (qq rfl))) ?_
   refine a2u (by kernel_rfl) ?_
   refine a0n (fun a ha => ?_)
   cases hb1
   exact ⟨_, b19, as43, ns43, cs43, as44, ns44, cs44, ((((hF45.trans hF46).trans hF47).trans hF48).trans hF49), hx82.pick [0, 1, 2, 3, 4] (by decide) rfl, hs43, hs44, ha.cut (l := [3, 5, 6, 7, 8, 9]) rfl⟩
end Go.Proofs.YtknpjecpcmajiaaGreat.M

namespace Go.Proofs.YtknpjecpcmajiaaGreat.M
open Go Go.RowKit Rt
theorem ent18 : Ent Tryz.prog 18 := fun _ _ => by kernel_rfl
theorem ent22 : Ent Tryz.prog 22 := fun _ _ => by kernel_rfl
def a3u (n : Nat) (rec_law36_straight : Expr → (List Bs) → Option Bool) (x1 : Expr) (names1 : (List Bs)) (kont1 : Option Bool) : Nat → Int → Option Bool
 | 0, _ => none
 | mx1 + 1, i1 =>
  bif decide (i1 < (x1.Args.length : Int)) then
   (ix x1.Args i1).bind fun ex1 =>
   (a5z n ex1 names1).bind fun v1 =>
   (bif x1.Op == 9 then
    some true
   else
    some (x1.Op == 10)).bind fun v2 =>
   (bif v2 then
    some (v1.1 == 2)
   else
    some false).bind fun v3 =>
   (bif v3 then
    some true
   else
    (ix x1.Args i1).bind fun ex2 =>
    (rec_law36_straight ex2 names1).bind fun v5 =>
    some (!v5)).bind fun v4 =>
   bif v4 then
    some false
   else
    a3u n rec_law36_straight x1 names1 kont1 mx1 (iadd .i64 i1 1)
  else
   kont1
theorem a7u (n : Nat) (rec_law36_straight : Expr → (List Bs) → Option Bool) (x1 : Expr) (names1 : (List Bs)) (kont1 : Option Bool) (mx1 : Nat) (i1 : Int) : a3u n rec_law36_straight x1 names1 kont1 (mx1 + 1) i1 =
  bif decide (i1 < (x1.Args.length : Int)) then
   (ix x1.Args i1).bind fun ex1 =>
   (a5z n ex1 names1).bind fun v1 =>
   (bif x1.Op == 9 then
    some true
   else
    some (x1.Op == 10)).bind fun v2 =>
   (bif v2 then
    some (v1.1 == 2)
   else
    some false).bind fun v3 =>
   (bif v3 then
    some true
   else
    (ix x1.Args i1).bind fun ex2 =>
    (rec_law36_straight ex2 names1).bind fun v5 =>
    some (!v5)).bind fun v4 =>
   bif v4 then
    some false
   else
    a3u n rec_law36_straight x1 names1 kont1 mx1 (iadd .i64 i1 1)
  else
   kont1 := rfl
def law36_straight : Nat → Expr → (List Bs) → Option Bool
 | 0, _, _ => none
 | n + 1, x1, names1 =>
  a3u n (law36_straight n) x1 names1 (
   some true) n 0
theorem b2a (n : Nat) (x1 : Expr) (names1 : (List Bs)) : law36_straight (n + 1) x1 names1 =
  a3u n (law36_straight n) x1 names1 (
   some true) n 0 := rfl
set_option maxHeartbeats 1000000 in
set_option maxRecDepth 1000000 in
theorem b4p (n : Nat) : (∀ (x1 : Expr) (names1 : (List Bs)) (r : Bool) (_ : law36_straight n x1 names1 = some r) {w : World} {F : Frz} (_ : Sat F w) {as1 : Option Addr} {ns1 : Nat} {cs1 : Nat} {as2 : Option Addr} {ns2 : Nat} {cs2 : Nat} (_ : SlR rp_Expr F as1 ns1 cs1 x1.Args) (_ : SlR Rp.str F as2 ns2 cs2 names1), Calls Tryz.prog 22 #[.agg #[.int .i64 x1.Op, .int .i64 x1.N, vs x1.Name, .slice as1 ns1 cs1], .slice as2 ns2 cs2] w fun e w' => ∃ v F' O', e = .returned v ∧ HS F w [] F' O' w' ∧ (v = .bool r ∧ O' = [])) := by
 induction n with
 | zero =>
  ·intro x1 names1 r hm
   exact absurd (show (none : Option Bool) = some r from hm) (by simp)
 | succ n ih =>
  ·intro x1 names1 r hm w F hs as1 ns1 cs1 as2 ns2 cs2 hs1 hs2
   rw [b2a] at hm
   have h := HS.init hs
   refine a1a 47 Tryz.func22 rfl rfl rfl ?_
   refine a0f (a0a ?_)
   refine a2r rfl rfl rfl rfl h ?_
   intro b1 wx1 hx1
   refine a0b rfl rfl rfl (a0c (a0d (a0f (a0f (a0a (a0b rfl rfl rfl (a0c (a0d (a1g ?_)))))))))
   intro a hax6
   obtain ⟨kont1, hkont1⟩ : ∃ kont1 : Option Bool, kont1 = (
       some true) := ⟨_, rfl⟩
   replace hm : (fun m (s : Int) => a3u n (law36_straight n) x1 names1 kont1 m s) n 0 = some r := by rw [hkont1]; exact hm
   refine a5s (id := 0) (fun m (s : Int) => a3u n (law36_straight n) x1 names1 kont1 m s) (fun (y : Unit) => kont1) r (fun (s : Int) a w' => ∃ (Fx1 : Frz), Frz.le F Fx1 ∧ HS F w [] Fx1 [.box b1 24 [.int .i64 x1.Op, .int .i64 x1.N, vs x1.Name, .slice as1 ns1 cs1]] w' ∧ Has 47 a [(1, .slice as2 ns2 cs2), (2, .pointer (some ⟨b1, 0, none⟩)), (5, .int .i64 s)]) (fun (y : Unit) a w' => ∃ (Fx2 : Frz), Frz.le F Fx2 ∧ HS F w [] Fx2 [] w' ∧ Has 47 a []) (fun _ => rfl) ?_ ?_ hm ⟨_, Frz.refl _, hx1.pick [0] (by decide) rfl, hax6.cut (l := [1, 2, 5]) rfl⟩
   ·clear hm; rintro _u a wx2 hm ⟨Fx2, hF2, hx3, hax1⟩
    rw [hkont1] at hm
    refine a2e (e := .exit 0) hax1 ?_
    refine a1j (a0d (a0f (a0a (a0b rfl rfl rfl (a0c (a0d (a1d ?_)))))))
    refine a1k rfl rfl ?_
    obtain rfl := Option.some.inj hm
    exact ⟨_, _, _, rfl, hx3.pick [] (by decide) rfl, rfl, rfl⟩
   ·clear hm hkont1; intro hk1 mx1 K ihx1
    rintro i1 a wx3 hm ⟨Fx1, hF1, hx2, hax2⟩
    simp only [a7u] at hm
    refine a1l hax2 ?_
    refine a0f (a0f (a0a (a0e rfl rfl rfl ?_)))
    refine a0h fa24_3 rfl rfl rfl ?_
    refine a0p ag22 rfl rfl hx2 rfl (i := 0) rfl rfl ?_
    refine a1v hs1.len u22 rfl rfl rfl ?_
    refine a0u rfl rfl rfl rfl rfl ?_
    refine a0c (a0d ?_)
    rcases a0g hm with ⟨hb1, hm⟩ | ⟨hb1, hm⟩
    ·refine a0t 12 rfl hb1 ?_
     refine a0z rfl (a1e (a0d (a0f (a1g (a0f (a0a ?_))))))
     refine a0h fa24_3 rfl rfl rfl ?_
     refine a0p ag22 rfl rfl hx2 rfl (i := 0) rfl rfl ?_
     refine a0e rfl rfl rfl ?_
     obtain ⟨ex1, he1, hm⟩ := bind_some hm
     refine a2l (r := rp_Expr) u22 sz24 rfl rfl rfl rfl (hs1.mono hF1) he1 ?_
     intro b2 o1 cs1 hf1 hr1
     obtain ⟨as3, ns3, cs3, hc1, hs3⟩ := expr_iff.1 hr1
     subst hc1
     refine a3p ag24 sz24 rfl rfl hx2 hf1 rfl rfl ?_
     refine a0e rfl rfl rfl ?_
     obtain ⟨v1, hv1, hm⟩ := bind_some hm
     refine a0i ent18 rfl rfl rfl rfl hx2 (b3r _ _ _ _ hv1 hx2.sat hs3 (hs2.mono hF1)) ?_
     rintro _ Fx3 _ wx4 hF3 hx4 ⟨rfl, rfl⟩
     refine a0e rfl rfl rfl (a0k rfl rfl rfl rfl (a0k rfl rfl rfl rfl (a0b rfl rfl rfl (a0b rfl rfl rfl (a0c (a0d (a0f (a0a ?_))))))))
     refine a0h fa24_0 rfl rfl rfl ?_
     refine a0p ag3 rfl rfl hx4 rfl (i := 0) rfl rfl ?_
     refine a0u rfl rfl rfl rfl rfl ?_
     refine a0e rfl rfl rfl ?_
     obtain ⟨v2, hb2, hm⟩ := bind_some hm
     refine a2n 4 (fun a w' => wx4 = w' ∧ Has 47 a [(1, .slice as2 ns2 cs2), (2, .pointer (some ⟨b1, 0, none⟩)), (5, .int .i64 i1), (6, .int .i64 v1.1), (32, .bool v2)]) ?_ ?_
     ·rintro a wx5 ⟨rfl, hax3⟩
      refine a1c hax3 ?_
      refine a0e rfl rfl rfl ?_
      obtain ⟨v3, hb3, hm⟩ := bind_some hm
      refine a2n 3 (fun a w' => wx4 = w' ∧ Has 47 a [(1, .slice as2 ns2 cs2), (2, .pointer (some ⟨b1, 0, none⟩)), (5, .int .i64 i1), (36, .bool v3)]) ?_ ?_
      ·rintro a wx6 ⟨rfl, hax4⟩
       refine a1c hax4 ?_
       refine a0e rfl rfl rfl ?_
       obtain ⟨v4, hb4, hm⟩ := bind_some hm
       refine a2n 9 (fun a w' => ∃ (Fx4 : Frz), Frz.le Fx3 Fx4 ∧ HS F w [] Fx4 [.box b1 24 [.int .i64 x1.Op, .int .i64 x1.N, vs x1.Name, .slice as1 ns1 cs1]] w' ∧ Has 47 a [(1, .slice as2 ns2 cs2), (2, .pointer (some ⟨b1, 0, none⟩)), (5, .int .i64 i1), (46, .bool v4)]) ?_ ?_
       ·rintro a wx7 ⟨Fx4, hF4, hx5, hax5⟩
        refine a1c hax5 ?_
        refine a0c (a0d ?_)
        rcases a0g hm with ⟨hb5, hm⟩ | ⟨hb5, hm⟩
        ·refine a0t 46 rfl hb5 ?_
         refine a0z rfl (a0f (a0a (a0b rfl rfl rfl (a0c (a0d (a1d (a0w (a0j (a0j (a0w (a0j ?_)))))))))))
         refine a1k rfl rfl ?_
         obtain rfl := Option.some.inj hm
         exact ⟨_, _, _, rfl, hx5.pick [] (by decide) rfl, rfl, rfl⟩
        ·refine a0t 46 rfl hb5 ?_
         refine a0s rfl (a1e (a1q (a0d (a0a (a0e rfl rfl rfl ?_)))))
         refine a0u rfl rfl rfl rfl rfl ?_
         refine a0b rfl rfl rfl (a0c ?_)
         refine a0n (fun a ha => ihx1 (iadd .i64 i1 1) a _ hm ?_)
         exact ⟨_, ((hF1.trans hF3).trans hF4), hx5.pick [0] (by decide) rfl, ha.cut (l := [1, 2, 5]) rfl⟩
       ·clear hm
        rcases a0g hb4 with ⟨hb6, hb4⟩ | ⟨hb6, hb4⟩
        ·refine a1i 37 rfl hb6 ?_
         refine a0x rfl (by decide) rfl (a0x rfl (by decide) rfl (a0x rfl (by decide) rfl (a0x rfl (by decide) rfl (a0x rfl (by decide) rfl (a0x rfl (by decide) rfl (a0x rfl (by decide) rfl (a0x rfl (by decide) rfl (a0o rfl rfl rfl rfl (a0c ?_)))))))))
         refine a0n (fun a ha => ?_)
         cases hb4
         exact ⟨_, Frz.refl _, hx4.pick [0] (by decide) rfl, ha.cut (l := [1, 2, 5, 46]) rfl⟩
        ·refine a1i 37 rfl hb6 ?_
         refine a0h fa24_3 rfl rfl rfl ?_
         refine a0p ag22 rfl rfl hx4 rfl (i := 0) rfl rfl ?_
         refine a0e rfl rfl rfl ?_
         obtain ⟨ex2, he2, hb4⟩ := bind_some hb4
         refine a2l (r := rp_Expr) u22 sz24 rfl rfl rfl rfl ((hs1.mono hF1).mono hF3) he2 ?_
         intro b3 o2 cs2 hf2 hr2
         obtain ⟨as4, ns4, cs4, hc2, hs4⟩ := expr_iff.1 hr2
         subst hc2
         refine a3p ag24 sz24 rfl rfl hx4 hf2 rfl rfl ?_
         refine a0e rfl rfl rfl ?_
         obtain ⟨v5, hv2, hb4⟩ := bind_some hb4
         refine a0i ent22 rfl rfl rfl rfl hx4 (ih _ _ _ hv2 hx4.sat hs4 ((hs2.mono hF1).mono hF3)) ?_
         rintro _ Fx5 _ wx8 hF5 hx6 ⟨rfl, rfl⟩
         refine a3w rfl rfl rfl (a0m rfl rfl rfl rfl (a0c ?_))
         refine a0n (fun a ha => ?_)
         cases hb4
         exact ⟨_, hF5, hx6.pick [0] (by decide) rfl, ha.cut (l := [1, 2, 5, 46]) rfl⟩
      ·clear hm
       rcases a0g hb3 with ⟨hb7, hb3⟩ | ⟨hb7, hb3⟩
       ·refine a1i 33 rfl hb7 ?_
        refine a0e rfl rfl rfl ?_
        refine a0u rfl rfl rfl rfl rfl ?_
        refine a0o rfl rfl rfl rfl (a0c ?_)
        refine a0n (fun a ha => ?_)
        cases hb3
        exact ⟨rfl, ha.cut (l := [1, 2, 5, 36]) rfl⟩
       ·refine a1i 33 rfl hb7 ?_
        refine a0x rfl (by decide) rfl (a0x rfl (by decide) rfl (a0m rfl rfl rfl rfl (a0c ?_)))
        refine a0n (fun a ha => ?_)
        cases hb3
        exact ⟨rfl, ha.cut (l := [1, 2, 5, 36]) rfl⟩
     ·clear hm
      rcases a0g hb2 with ⟨hb8, hb2⟩ | ⟨hb8, hb2⟩
      ·refine a1i 28 rfl hb8 ?_
       refine a0x rfl (by decide) rfl (a0x rfl (by decide) rfl (a0x rfl (by decide) rfl (a0o rfl rfl rfl rfl (a0c ?_))))
       refine a0n (fun a ha => ?_)
       cases hb2
       exact ⟨rfl, ha.cut (l := [1, 2, 5, 6, 32]) rfl⟩
      ·refine a1i 28 rfl hb8 ?_
       refine a0h fa24_0 rfl rfl rfl ?_
       refine a0p ag3 rfl rfl hx4 rfl (i := 0) rfl rfl ?_
       refine a0u rfl rfl rfl rfl rfl ?_
       refine a0m rfl rfl rfl rfl (a0c ?_)
       refine a0n (fun a ha => ?_)
       cases hb2
       exact ⟨rfl, ha.cut (l := [1, 2, 5, 6, 32]) rfl⟩
    ·refine a0t 12 rfl hb1 ?_
     refine a0s rfl (a3r (a0v (a0v ?_)))
     refine fun a ha => hk1 () a _ hm ?_
     exact ⟨_, hF1, hx2.pick [] (by decide) rfl, ha.cut (l := []) rfl⟩
theorem b5i (n : Nat) (x1 : Expr) (names1 : (List Bs)) (r : Bool) (hm : law36_straight n x1 names1 = some r) {w : World} {F : Frz} (hs : Sat F w) {as1 : Option Addr} {ns1 : Nat} {cs1 : Nat} {as2 : Option Addr} {ns2 : Nat} {cs2 : Nat} (hs1 : SlR rp_Expr F as1 ns1 cs1 x1.Args) (hs2 : SlR Rp.str F as2 ns2 cs2 names1) :
  Calls Tryz.prog 22 #[.agg #[.int .i64 x1.Op, .int .i64 x1.N, vs x1.Name, .slice as1 ns1 cs1], .slice as2 ns2 cs2] w fun e w' => ∃ v F' O', e = .returned v ∧ HS F w [] F' O' w' ∧ (v = .bool r ∧ O' = []) :=
 (b4p n) x1 names1 r hm hs hs1 hs2
theorem ent6 : Ent Tryz.prog 6 := fun _ _ => by kernel_rfl
theorem ent7 : Ent Tryz.prog 7 := fun _ _ => by kernel_rfl
theorem ap31 : AppIs Tryz.prog 31 37 4 64 := AppIs.of (z := .agg #[.int .i64 0, .slice none 0 0, .int .i64 0, .slice none 0 0]) (by kernel_rfl) (by kernel_rfl) rfl (by decide) (by decide)
def a3v (n : Nat) (weights1 : (List Frac)) (others1 : (List Frac)) (k1 : Frac) (kont1 : (List Frac) → Option Bool) : Nat → Int → (List Frac) → Option Bool
 | 0, _, _ => none
 | mx1 + 1, i1, l1 =>
  bif decide (i1 < (weights1.length : Int)) then
   ((ix others1 i1).bind fun ex2 =>
   (ix weights1 i1).bind fun ex3 =>
   (a9e n ex2 ex3).bind fun v24 =>
   some (v24.1.P.Sign, v24.1.P.Digits, v24.1.Q.Sign, v24.1.Q.Digits)).bind fun (f2, f3, f4, f5) =>
   (a8o n (⟨(⟨f2, f3⟩ : Big), (⟨f4, f5⟩ : Big)⟩ : Frac) k1).bind fun v22 =>
   (ix weights1 i1).bind fun ex1 =>
   (a7q n ex1 v22.1).bind fun v23 =>
   (app 64 l1 [v23.1]).bind fun l3 =>
   a3v n weights1 others1 k1 kont1 mx1 (iadd .i64 i1 1) l3
  else
   kont1 l1
theorem a7t (n : Nat) (weights1 : (List Frac)) (others1 : (List Frac)) (k1 : Frac) (kont1 : (List Frac) → Option Bool) (mx1 : Nat) (i1 : Int) (l1 : List Frac) : a3v n weights1 others1 k1 kont1 (mx1 + 1) i1 l1 =
  bif decide (i1 < (weights1.length : Int)) then
   ((ix others1 i1).bind fun ex2 =>
   (ix weights1 i1).bind fun ex3 =>
   (a9e n ex2 ex3).bind fun v24 =>
   some (v24.1.P.Sign, v24.1.P.Digits, v24.1.Q.Sign, v24.1.Q.Digits)).bind fun (f2, f3, f4, f5) =>
   (a8o n (⟨(⟨f2, f3⟩ : Big), (⟨f4, f5⟩ : Big)⟩ : Frac) k1).bind fun v22 =>
   (ix weights1 i1).bind fun ex1 =>
   (a7q n ex1 v22.1).bind fun v23 =>
   (app 64 l1 [v23.1]).bind fun l3 =>
   a3v n weights1 others1 k1 kont1 mx1 (iadd .i64 i1 1) l3
  else
   kont1 l1 := rfl
def a9f (n : Nat) (t1 : Tariff) (names1 : (List Bs)) (f1 : Facts) (weights1 : (List Frac)) (others1 : (List Frac)) (k1 : Frac) : Option Bool :=
 (b0b n).bind fun v1 =>
 (b1h n t1 names1 f1 weights1).bind fun v2 =>
 (bif !v2 then
  some true
 else
  (b1h n t1 names1 f1 others1).bind fun v31 =>
  some (!v31)).bind fun v3 =>
 (bif v3 then
  some true
 else
  (a8m n k1 2).bind fun v30 =>
  some (!v30)).bind fun v4 =>
 (bif v4 then
  some true
 else
  (a3e n k1).bind fun v29 =>
  some (!v29)).bind fun v5 =>
 (bif v5 then
  some true
 else
  (b0l n k1).bind fun v28 =>
  some (decide (v28 < 0))).bind fun v6 =>
 (bif v6 then
  some true
 else
  (a8k n 1).bind fun v26 =>
  (a5h n k1 v26).bind fun v27 =>
  some (decide (0 < v27))).bind fun v7 =>
 bif v7 then
  some v1
 else
  (a6e n t1 names1 f1 weights1).bind fun v8 =>
  (a6e n t1 names1 f1 others1).bind fun v9 =>
  (bif v8.2 != 0 then
   some true
  else
   some (v9.2 != 0)).bind fun v10 =>
  bif v10 then
   some v1
  else
   (a5z n t1.Fee names1).bind fun v11 =>
   (bif v11.1 == 1 then
    (a5b n v8.1 v9.1).bind fun v25 =>
    some (!v25)
   else
    some false).bind fun v12 =>
   bif v12 then
    some false
   else
    a3v n weights1 others1 k1 (fun (l2 : List Frac) =>
     (a6e n t1 names1 f1 l2).bind fun v13 =>
     (a9e n v9.1 v8.1).bind fun v14 =>
     (a8o n v14.1 k1).bind fun v15 =>
     (a7q n v8.1 v15.1).bind fun v16 =>
     (bif v1 then
      some (v13.2 == 0)
     else
      some false).bind fun v17 =>
     (bif v17 then
      (law36_straight n t1.Fee names1).bind fun v19 =>
      (bif !v19 then
       some true
      else
       (a5b n v13.1 v16.1).bind fun v21 =>
       some v21).bind fun v20 =>
      some v20
     else
      some false).bind fun v18 =>
     some v18) n 0 []
set_option maxHeartbeats 1000000 in
set_option maxRecDepth 1000000 in
theorem law36_FeeMixes_ok (n : Nat) (t1 : Tariff) (names1 : (List Bs)) (f1 : Facts) (weights1 : (List Frac)) (others1 : (List Frac)) (k1 : Frac) (r : Bool) (hm : a9f n t1 names1 f1 weights1 others1 k1 = some r) {w : World} {F : Frz} (hs : Sat F w) {as1 : Option Addr} {ns1 : Nat} {cs1 : Nat} {as2 : Option Addr} {ns2 : Nat} {cs2 : Nat} {as3 : Option Addr} {ns3 : Nat} {cs3 : Nat} {as4 : Option Addr} {ns4 : Nat} {cs4 : Nat} {as5 : Option Addr} {ns5 : Nat} {cs5 : Nat} {as6 : Option Addr} {ns6 : Nat} {cs6 : Nat} {as7 : Option Addr} {ns7 : Nat} {cs7 : Nat} (hs1 : SlR rp_Expr F as1 ns1 cs1 t1.Fee.Args) (hs2 : SlR Rp.str F as2 ns2 cs2 names1) (hs3 : SlR (Rp.int .i64) F as3 ns3 cs3 f1.Lifts) (hs4 : SlR rp_Frac F as4 ns4 cs4 weights1) (hs5 : SlR rp_Frac F as5 ns5 cs5 others1) (hs6 : SlR (Rp.int .i64) F as6 ns6 cs6 k1.P.Digits) (hs7 : SlR (Rp.int .i64) F as7 ns7 cs7 k1.Q.Digits) :
  Calls Tryz.prog 4 #[.agg #[vs t1.Name, .int .i64 t1.Fee.Op, .int .i64 t1.Fee.N, vs t1.Fee.Name, .slice as1 ns1 cs1, .int .i64 t1.Cap], .slice as2 ns2 cs2, .agg #[.slice as3 ns3 cs3, .int .i64 f1.Persons, .int .i64 f1.Flats], .slice as4 ns4 cs4, .slice as5 ns5 cs5, .agg #[.int .i64 k1.P.Sign, .slice as6 ns6 cs6, .int .i64 k1.Q.Sign, .slice as7 ns7 cs7]] w fun e w' => ∃ v F' O', e = .returned v ∧ HS F w [] F' O' w' ∧ (v = .bool r ∧ O' = []) := by
 unfold a9f at hm
 have h := HS.init hs
 refine a1a 186 Tryz.func4 rfl rfl rfl ?_
 refine a0f (a0a ?_)
 refine a2r rfl rfl rfl rfl h ?_
 intro b1 wx1 hx1
 refine a2r rfl rfl rfl rfl hx1 ?_
 intro b2 wx2 hx2
 refine a2r rfl rfl rfl rfl hx2 ?_
 intro b3 wx3 hx3
 refine a0b rfl rfl rfl (a0c (a0d (a0f (a0a ?_))))
 obtain ⟨v1, hv1, hm⟩ := bind_some hm
 refine a0i ent6 rfl rfl rfl rfl hx3 (b8g _ _ hv1 hx3.sat) ?_
 rintro _ Fx1 _ wx4 hF1 hx4 ⟨rfl, rfl⟩
 refine a0b rfl rfl rfl (a0c (a0d (a0f (a0f ?_))))
 refine a2j (SH Fx1 [.box b3 37 [.int .i64 k1.P.Sign, .slice as6 ns6 cs6, .int .i64 k1.Q.Sign, .slice as7 ns7 cs7], .box b2 30 [.slice as3 ns3 cs3, .int .i64 f1.Persons, .int .i64 f1.Flats], .box b1 26 [vs t1.Name, .int .i64 t1.Fee.Op, .int .i64 t1.Fee.N, vs t1.Fee.Name, .slice as1 ns1 cs1, .int .i64 t1.Cap]]) 35 rfl (by kernel_rfl) hx4 ?_
 intro wx5 hx5
 refine d_tk 0 rfl (by kernel_rfl) rfl rfl rfl rfl (hx5.sh (Frz.refl _) [0, 1, 2] (by decide) rfl) (fun _ _ _ _ hq => a0l ag26 sz26 rfl rfl hq rfl (i := 2) rfl rfl (a0c (qq rfl))) ?_
 refine d_tk 1 rfl (by kernel_rfl) rfl rfl rfl rfl (hx5.sh (Frz.refl _) [0, 1, 2] (by decide) rfl) (fun _ _ _ _ _ => a0e rfl rfl rfl (a0c (qq rfl))) ?_
 refine d_tk 2 rfl (by kernel_rfl) rfl rfl rfl rfl (hx5.sh (Frz.refl _) [0, 1, 2] (by decide) rfl) (fun _ _ _ _ hq => a0l ag30 sz30 rfl rfl hq rfl (i := 1) rfl rfl (a0c (qq rfl))) ?_
 refine d_tk 3 rfl (by kernel_rfl) rfl rfl rfl rfl (hx5.sh (Frz.refl _) [0, 1, 2] (by decide) rfl) (fun _ _ _ _ _ => a0e rfl rfl rfl (a0c (qq rfl))) ?_
 refine a0y 4 rfl (by kernel_rfl) ?_
 obtain ⟨v2, hv2, hm⟩ := bind_some hm
 refine a0i ent7 rfl rfl rfl rfl hx5 (b5o _ _ _ _ _ _ hv2 hx5.sat (hs1.mono hF1) (hs2.mono hF1) (hs3.mono hF1) (hs4.mono hF1)) ?_
 rintro _ Fx2 _ wx6 hF2 hx6 ⟨rfl, rfl⟩
 refine a0r (hx6.sh hF2 [0, 1, 2] (by decide) rfl) ?_
 refine d_tk 5 rfl (by kernel_rfl) rfl rfl rfl rfl (hx6.sh hF2 [0, 1, 2] (by decide) rfl) (fun _ _ _ _ _ => a3w rfl rfl rfl (a0c (qq rfl))) ?_
 refine d_tk 6 rfl (by kernel_rfl) rfl rfl rfl rfl (hx6.sh hF2 [0, 1, 2] (by decide) rfl) (fun _ _ _ _ _ => a0e rfl rfl rfl (a0c (qq rfl))) ?_
 obtain ⟨v3, hb1, hm⟩ := bind_some hm
 refine c0d (fuel' := 21) (listed' := #[true, true, true, true, true, true, true, true, true, true, true, true, true, true, false, false, false, false, false, false, false, false, false, false, false, false, false, false, false, false, false, false, false, false, false]) (fun a w' => ∃ (Fx3 : Frz), Frz.le Fx2 Fx3 ∧ HS F w [] Fx3 [.box b3 37 [.int .i64 k1.P.Sign, .slice as6 ns6 cs6, .int .i64 k1.Q.Sign, .slice as7 ns7 cs7], .box b2 30 [.slice as3 ns3 cs3, .int .i64 f1.Persons, .int .i64 f1.Flats], .box b1 26 [vs t1.Name, .int .i64 t1.Fee.Op, .int .i64 t1.Fee.N, vs t1.Fee.Name, .slice as1 ns1 cs1, .int .i64 t1.Cap]] w' ∧ Has 186 a [(1, .slice as2 ns2 cs2), (3, .slice as4 ns4 cs4), (4, .slice as5 ns5 cs5), (6, .pointer (some ⟨b1, 0, none⟩)), (8, .pointer (some ⟨b2, 0, none⟩)), (11, .pointer (some ⟨b3, 0, none⟩)), (13, .bool v1), (44, .bool v3)]) ?_ (fun hK1 => ?_)
 ·rintro a wx7 ⟨Fx3, hF3, hx7, hax1⟩
  refine a9z hax1 ?_
  refine d_tk 14 rfl (by kernel_rfl) rfl rfl rfl rfl (hx7.sh (hF2.trans hF3) [0, 1, 2] (by decide) rfl) (fun _ _ _ _ _ => a0e rfl rfl rfl (a0c (qq rfl))) ?_
  obtain ⟨v4, hb2, hm⟩ := bind_some hm
  refine c0d (fuel' := 16) (listed' := #[true, true, true, true, true, true, true, true, true, true, true, true, true, true, true, true, true, true, true, false, false, false, false, false, false, false, false, false, false, false, false, false, false, false, false]) (fun a w' => ∃ (Fx4 : Frz), Frz.le Fx3 Fx4 ∧ HS F w [] Fx4 [.box b3 37 [.int .i64 k1.P.Sign, .slice as6 ns6 cs6, .int .i64 k1.Q.Sign, .slice as7 ns7 cs7], .box b2 30 [.slice as3 ns3 cs3, .int .i64 f1.Persons, .int .i64 f1.Flats], .box b1 26 [vs t1.Name, .int .i64 t1.Fee.Op, .int .i64 t1.Fee.N, vs t1.Fee.Name, .slice as1 ns1 cs1, .int .i64 t1.Cap]] w' ∧ Has 186 a [(1, .slice as2 ns2 cs2), (3, .slice as4 ns4 cs4), (4, .slice as5 ns5 cs5), (6, .pointer (some ⟨b1, 0, none⟩)), (8, .pointer (some ⟨b2, 0, none⟩)), (11, .pointer (some ⟨b3, 0, none⟩)), (13, .bool v1), (49, .bool v4)]) ?_ (fun hK2 => ?_)
  ·rintro a wx8 ⟨Fx4, hF4, hx8, hax2⟩
   refine a9z hax2 ?_
   refine d_tk 19 rfl (by kernel_rfl) rfl rfl rfl rfl (hx8.sh ((hF2.trans hF3).trans hF4) [0, 1, 2] (by decide) rfl) (fun _ _ _ _ _ => a0e rfl rfl rfl (a0c (qq rfl))) ?_
   obtain ⟨v5, hb3, hm⟩ := bind_some hm
   refine c0d (fuel' := 11) (listed' := #[true, true, true, true, true, true, true, true, true, true, true, true, true, true, true, true, true, true, true, true, true, true, true, true, false, false, false, false, false, false, false, false, false, false, false]) (fun a w' => ∃ (Fx5 : Frz), Frz.le Fx4 Fx5 ∧ HS F w [] Fx5 [.box b3 37 [.int .i64 k1.P.Sign, .slice as6 ns6 cs6, .int .i64 k1.Q.Sign, .slice as7 ns7 cs7], .box b2 30 [.slice as3 ns3 cs3, .int .i64 f1.Persons, .int .i64 f1.Flats], .box b1 26 [vs t1.Name, .int .i64 t1.Fee.Op, .int .i64 t1.Fee.N, vs t1.Fee.Name, .slice as1 ns1 cs1, .int .i64 t1.Cap]] w' ∧ Has 186 a [(1, .slice as2 ns2 cs2), (3, .slice as4 ns4 cs4), (4, .slice as5 ns5 cs5), (6, .pointer (some ⟨b1, 0, none⟩)), (8, .pointer (some ⟨b2, 0, none⟩)), (11, .pointer (some ⟨b3, 0, none⟩)), (13, .bool v1), (54, .bool v5)]) ?_ (fun hK3 => ?_)
   ·rintro a wx9 ⟨Fx5, hF5, hx9, hax3⟩
    refine a9z hax3 ?_
    refine d_tk 24 rfl (by kernel_rfl) rfl rfl rfl rfl (hx9.sh (((hF2.trans hF3).trans hF4).trans hF5) [0, 1, 2] (by decide) rfl) (fun _ _ _ _ _ => a0e rfl rfl rfl (a0c (qq rfl))) ?_
    obtain ⟨v6, hb4, hm⟩ := bind_some hm
    refine c0d (fuel' := 6) (listed' := #[true, true, true, true, true, true, true, true, true, true, true, true, true, true, true, true, true, true, true, true, true, true, true, true, true, true, true, true, true, false, false, false, false, false, false]) (fun a w' => ∃ (Fx6 : Frz), Frz.le Fx5 Fx6 ∧ HS F w [] Fx6 [.box b3 37 [.int .i64 k1.P.Sign, .slice as6 ns6 cs6, .int .i64 k1.Q.Sign, .slice as7 ns7 cs7], .box b2 30 [.slice as3 ns3 cs3, .int .i64 f1.Persons, .int .i64 f1.Flats], .box b1 26 [vs t1.Name, .int .i64 t1.Fee.Op, .int .i64 t1.Fee.N, vs t1.Fee.Name, .slice as1 ns1 cs1, .int .i64 t1.Cap]] w' ∧ Has 186 a [(1, .slice as2 ns2 cs2), (3, .slice as4 ns4 cs4), (4, .slice as5 ns5 cs5), (6, .pointer (some ⟨b1, 0, none⟩)), (8, .pointer (some ⟨b2, 0, none⟩)), (11, .pointer (some ⟨b3, 0, none⟩)), (13, .bool v1), (59, .bool v6)]) ?_ (fun hK4 => ?_)
    ·rintro a wx10 ⟨Fx6, hF6, hx10, hax4⟩
     refine a9z hax4 ?_
     refine d_tk 29 rfl (by kernel_rfl) rfl rfl rfl rfl (hx10.sh ((((hF2.trans hF3).trans hF4).trans hF5).trans hF6) [0, 1, 2] (by decide) rfl) (fun _ _ _ _ _ => a0e rfl rfl rfl (a0c (qq rfl))) ?_
     obtain ⟨v7, hb5, hm⟩ := bind_some hm
     refine c0d (fuel' := 0) (listed' := #[true, true, true, true, true, true, true, true, true, true, true, true, true, true, true, true, true, true, true, true, true, true, true, true, true, true, true, true, true, true, true, true, true, true, true]) (fun a w' => ∃ (Fx7 : Frz), Frz.le Fx6 Fx7 ∧ HS F w [] Fx7 [.box b3 37 [.int .i64 k1.P.Sign, .slice as6 ns6 cs6, .int .i64 k1.Q.Sign, .slice as7 ns7 cs7], .box b2 30 [.slice as3 ns3 cs3, .int .i64 f1.Persons, .int .i64 f1.Flats], .box b1 26 [vs t1.Name, .int .i64 t1.Fee.Op, .int .i64 t1.Fee.N, vs t1.Fee.Name, .slice as1 ns1 cs1, .int .i64 t1.Cap]] w' ∧ Has 186 a [(1, .slice as2 ns2 cs2), (3, .slice as4 ns4 cs4), (4, .slice as5 ns5 cs5), (6, .pointer (some ⟨b1, 0, none⟩)), (8, .pointer (some ⟨b2, 0, none⟩)), (11, .pointer (some ⟨b3, 0, none⟩)), (13, .bool v1), (65, .bool v7)]) ?_ (fun hK5 => ?_)
     ·rintro a wx11 ⟨Fx7, hF7, hx11, hax5⟩
      refine a9z hax5 ?_
      refine a2u (by kernel_rfl) ?_
      refine a0d ?_
      rcases a0g hm with ⟨hb6, hm⟩ | ⟨hb6, hm⟩
      ·refine a0t 65 rfl hb6 ?_
       refine a0z rfl (a0f (a0a (a0e rfl rfl rfl (a0b rfl rfl rfl (a0c (a0d (a1d (a0j ?_))))))))
       refine a1k rfl rfl ?_
       obtain rfl := Option.some.inj hm
       exact ⟨_, _, _, rfl, hx11.pick [] (by decide) rfl, rfl, rfl⟩
      ·refine a0t 65 rfl hb6 ?_
       refine a0s rfl (a1e (a0d (a0f (a0a ?_))))
       refine a0l ag26 sz26 rfl rfl hx11 rfl (i := 2) rfl rfl ?_
       refine a0e rfl rfl rfl ?_
       refine a0l ag30 sz30 rfl rfl hx11 rfl (i := 1) rfl rfl ?_
       refine a0e rfl rfl rfl ?_
       have hG1 := (((((hF1.trans hF2).trans hF3).trans hF4).trans hF5).trans hF6).trans hF7
       obtain ⟨v8, hv3, hm⟩ := bind_some hm
       refine a0i ent8 rfl rfl rfl rfl hx11 (a9q _ _ _ _ _ _ hv3 hx11.sat (hs1.mono hG1) (hs2.mono hG1) (hs3.mono hG1) (hs4.mono hG1)) ?_
       rintro _ Fx8 _ wx12 hF8 hx12 ⟨as8, ns8, cs8, as9, ns9, cs9, rfl, rfl, hs8, hs9⟩
       refine a0e rfl rfl rfl (a0k rfl rfl rfl rfl (a0k rfl rfl rfl rfl ?_))
       refine a1f ze37 rfl rfl rfl hx12 ?_
       intro b4 wx13 hx13
       refine a0q sz37 rfl hx13 rfl rfl rfl rfl (i := 0) rfl rfl rfl rfl ?_
       intro wx14 hx14
       refine a0b rfl rfl rfl (a0c (a0d (a0f (a0a ?_))))
       refine a0l ag26 sz26 rfl rfl hx14 rfl (i := 3) rfl rfl ?_
       refine a0e rfl rfl rfl ?_
       refine a0l ag30 sz30 rfl rfl hx14 rfl (i := 2) rfl rfl ?_
       refine a0e rfl rfl rfl ?_
       obtain ⟨v9, hv4, hm⟩ := bind_some hm
       refine a0i ent8 rfl rfl rfl rfl hx14 (a9q _ _ _ _ _ _ hv4 hx14.sat ((hs1.mono hG1).mono hF8) ((hs2.mono hG1).mono hF8) ((hs3.mono hG1).mono hF8) ((hs5.mono hG1).mono hF8)) ?_
       rintro _ Fx9 _ wx15 hF9 hx15 ⟨as10, ns10, cs10, as11, ns11, cs11, rfl, rfl, hs10, hs11⟩
       refine a0e rfl rfl rfl (a0k rfl rfl rfl rfl (a0k rfl rfl rfl rfl ?_))
       refine a1f ze37 rfl rfl rfl hx15 ?_
       intro b5 wx16 hx16
       refine a0q sz37 rfl hx16 rfl rfl rfl rfl (i := 0) rfl rfl rfl rfl ?_
       intro wx17 hx17
       refine a0b rfl rfl rfl (a0c (a0d (a0f (a0f (a0a (a0e rfl rfl rfl ?_))))))
       refine a0u rfl rfl rfl rfl rfl ?_
       refine a0e rfl rfl rfl ?_
       obtain ⟨v10, hb7, hm⟩ := bind_some hm
       refine a2n 3 (fun a w' => wx17 = w' ∧ Has 186 a [(1, .slice as2 ns2 cs2), (3, .slice as4 ns4 cs4), (4, .slice as5 ns5 cs5), (6, .pointer (some ⟨b1, 0, none⟩)), (8, .pointer (some ⟨b2, 0, none⟩)), (11, .pointer (some ⟨b3, 0, none⟩)), (13, .bool v1), (14, .pointer (some ⟨b4, 0, none⟩)), (16, .pointer (some ⟨b5, 0, none⟩)), (88, .bool v10)]) ?_ ?_
       ·rintro a wx18 ⟨rfl, hax6⟩
        refine a1c hax6 ?_
        refine a0c (a0d ?_)
        rcases a0g hm with ⟨hb8, hm⟩ | ⟨hb8, hm⟩
        ·refine a0t 88 rfl hb8 ?_
         refine a0z rfl (a0f (a0a (a0e rfl rfl rfl (a0b rfl rfl rfl (a0c (a0d (a1d (a0j ?_))))))))
         refine a1k rfl rfl ?_
         obtain rfl := Option.some.inj hm
         exact ⟨_, _, _, rfl, hx17.pick [] (by decide) rfl, rfl, rfl⟩
        ·refine a0t 88 rfl hb8 ?_
         refine a0s rfl (a1e (a0d (a0f (a0a ?_))))
         refine a0h fa26_1 rfl rfl rfl ?_
         refine a2m (cs' := [.int .i64 t1.Fee.Op, .int .i64 t1.Fee.N, vs t1.Fee.Name, .slice as1 ns1 cs1]) ag24 sz24 rfl rfl hx17 rfl (i := 4) rfl rfl rfl ?_
         refine a0e rfl rfl rfl ?_
         obtain ⟨v11, hv5, hm⟩ := bind_some hm
         refine a0i ent18 rfl rfl rfl rfl hx17 (b3r _ _ _ _ hv5 hx17.sat (((hs1.mono hG1).mono hF8).mono hF9) (((hs2.mono hG1).mono hF8).mono hF9)) ?_
         rintro _ Fx10 _ wx19 hF10 hx18 ⟨rfl, rfl⟩
         refine a0e rfl rfl rfl (a0k rfl rfl rfl rfl (a0k rfl rfl rfl rfl (a0b rfl rfl rfl (a0b rfl rfl rfl (a0c (a0d (a0f (a0f (a0a (a0e rfl rfl rfl ?_))))))))))
         refine a0u rfl rfl rfl rfl rfl ?_
         refine a0e rfl rfl rfl ?_
         obtain ⟨v12, hb9, hm⟩ := bind_some hm
         refine a2n 5 (fun a w' => ∃ (Fx11 : Frz), Frz.le Fx10 Fx11 ∧ HS F w [] Fx11 [.box b5 37 [.int .i64 v9.1.P.Sign, .slice as10 ns10 cs10, .int .i64 v9.1.Q.Sign, .slice as11 ns11 cs11], .box b4 37 [.int .i64 v8.1.P.Sign, .slice as8 ns8 cs8, .int .i64 v8.1.Q.Sign, .slice as9 ns9 cs9], .box b3 37 [.int .i64 k1.P.Sign, .slice as6 ns6 cs6, .int .i64 k1.Q.Sign, .slice as7 ns7 cs7], .box b2 30 [.slice as3 ns3 cs3, .int .i64 f1.Persons, .int .i64 f1.Flats], .box b1 26 [vs t1.Name, .int .i64 t1.Fee.Op, .int .i64 t1.Fee.N, vs t1.Fee.Name, .slice as1 ns1 cs1, .int .i64 t1.Cap]] w' ∧ Has 186 a [(1, .slice as2 ns2 cs2), (3, .slice as4 ns4 cs4), (4, .slice as5 ns5 cs5), (6, .pointer (some ⟨b1, 0, none⟩)), (8, .pointer (some ⟨b2, 0, none⟩)), (11, .pointer (some ⟨b3, 0, none⟩)), (13, .bool v1), (14, .pointer (some ⟨b4, 0, none⟩)), (16, .pointer (some ⟨b5, 0, none⟩)), (104, .bool v12)]) ?_ ?_
         ·rintro a wx20 ⟨Fx11, hF11, hx19, hax7⟩
          refine a1c hax7 ?_
          refine a0c (a0d ?_)
          rcases a0g hm with ⟨hb10, hm⟩ | ⟨hb10, hm⟩
          ·refine a0t 104 rfl hb10 ?_
           refine a0z rfl (a0f (a0a (a0b rfl rfl rfl (a0c (a0d (a1d (a0j ?_)))))))
           refine a1k rfl rfl ?_
           obtain rfl := Option.some.inj hm
           exact ⟨_, _, _, rfl, hx19.pick [] (by decide) rfl, rfl, rfl⟩
          ·refine a0t 104 rfl hb10 ?_
           refine a0s rfl (a1e (a0d (a0f (a0a ?_))))
           refine a1p (e := 37) (cs := []) (q := 4) rfl rfl hx19 rfl (fun _ => by kernel_rfl) rfl rfl ?_
           intro b6 wx21 hx20
           refine a0b rfl rfl rfl (a0c (a0d (a0f (a0f (a0a (a0b rfl rfl rfl (a0c (a0d (a1g ?_)))))))))
           intro a hax14
           obtain ⟨kont1, hkont1⟩ : ∃ kont1 : (List Frac) → Option Bool, kont1 = (fun (l2 : List Frac) =>
       (a6e n t1 names1 f1 l2).bind fun v13 =>
       (a9e n v9.1 v8.1).bind fun v14 =>
       (a8o n v14.1 k1).bind fun v15 =>
       (a7q n v8.1 v15.1).bind fun v16 =>
       (bif v1 then
        some (v13.2 == 0)
       else
        some false).bind fun v17 =>
       (bif v17 then
        (law36_straight n t1.Fee names1).bind fun v19 =>
        (bif !v19 then
         some true
        else
         (a5b n v13.1 v16.1).bind fun v21 =>
         some v21).bind fun v20 =>
        some v20
       else
        some false).bind fun v18 =>
       some v18) := ⟨_, rfl⟩
           replace hm : (fun m (s : Int × List Frac) => a3v n weights1 others1 k1 kont1 m s.1 s.2) n (0, []) = some r := by rw [hkont1]; exact hm
           refine a5s (id := 0) (fun m (s : Int × List Frac) => a3v n weights1 others1 k1 kont1 m s.1 s.2) (fun (y : List Frac) => kont1 y) r (fun (s : Int × List Frac) a w' => ∃ (Fx12 : Frz) (as12 : Option Addr) (ns12 : Nat) (cs12 : Nat) (xss12 : List Value), Frz.le Fx11 Fx12 ∧ HS F w [] Fx12 [.row 37 4 as12 ns12 cs12 xss12, .box b5 37 [.int .i64 v9.1.P.Sign, .slice as10 ns10 cs10, .int .i64 v9.1.Q.Sign, .slice as11 ns11 cs11], .box b4 37 [.int .i64 v8.1.P.Sign, .slice as8 ns8 cs8, .int .i64 v8.1.Q.Sign, .slice as9 ns9 cs9], .box b3 37 [.int .i64 k1.P.Sign, .slice as6 ns6 cs6, .int .i64 k1.Q.Sign, .slice as7 ns7 cs7], .box b2 30 [.slice as3 ns3 cs3, .int .i64 f1.Persons, .int .i64 f1.Flats], .box b1 26 [vs t1.Name, .int .i64 t1.Fee.Op, .int .i64 t1.Fee.N, vs t1.Fee.Name, .slice as1 ns1 cs1, .int .i64 t1.Cap]] w' ∧ (RowN rp_Frac Fx12 ns12 xss12 s.2) ∧ Has 186 a [(1, .slice as2 ns2 cs2), (3, .slice as4 ns4 cs4), (4, .slice as5 ns5 cs5), (6, .pointer (some ⟨b1, 0, none⟩)), (8, .pointer (some ⟨b2, 0, none⟩)), (11, .pointer (some ⟨b3, 0, none⟩)), (13, .bool v1), (14, .pointer (some ⟨b4, 0, none⟩)), (16, .pointer (some ⟨b5, 0, none⟩)), (20, .slice as12 ns12 cs12), (21, .int .i64 s.1)]) (fun (y : List Frac) a w' => ∃ (Fx13 : Frz) (as13 : Option Addr) (ns13 : Nat) (cs13 : Nat) (xss13 : List Value), Frz.le Fx11 Fx13 ∧ HS F w [] Fx13 [.row 37 4 as13 ns13 cs13 xss13, .box b5 37 [.int .i64 v9.1.P.Sign, .slice as10 ns10 cs10, .int .i64 v9.1.Q.Sign, .slice as11 ns11 cs11], .box b4 37 [.int .i64 v8.1.P.Sign, .slice as8 ns8 cs8, .int .i64 v8.1.Q.Sign, .slice as9 ns9 cs9], .box b3 37 [.int .i64 k1.P.Sign, .slice as6 ns6 cs6, .int .i64 k1.Q.Sign, .slice as7 ns7 cs7], .box b2 30 [.slice as3 ns3 cs3, .int .i64 f1.Persons, .int .i64 f1.Flats], .box b1 26 [vs t1.Name, .int .i64 t1.Fee.Op, .int .i64 t1.Fee.N, vs t1.Fee.Name, .slice as1 ns1 cs1, .int .i64 t1.Cap]] w' ∧ (RowN rp_Frac Fx13 ns13 xss13 y) ∧ Has 186 a [(1, .slice as2 ns2 cs2), (6, .pointer (some ⟨b1, 0, none⟩)), (8, .pointer (some ⟨b2, 0, none⟩)), (11, .pointer (some ⟨b3, 0, none⟩)), (13, .bool v1), (14, .pointer (some ⟨b4, 0, none⟩)), (16, .pointer (some ⟨b5, 0, none⟩)), (20, .slice as13 ns13 cs13)]) (fun _ => rfl) ?_ ?_ hm ⟨_, (some ⟨b6, 0, none⟩), 0, 0, [], Frz.refl _, hx20.pick [0, 1, 2, 3, 4, 5] (by decide) rfl, ((show RowN rp_Frac Fx11 0 [] [] from ⟨rfl, (rfl : RowR rp_Frac _ [] [])⟩)), hax14.cut (l := [1, 3, 4, 6, 8, 11, 13, 14, 16, 20, 21]) rfl⟩
           ·clear hm; rintro l2 a wx22 hm ⟨Fx13, as13, ns13, cs13, xss13, hF13, hx22, hs13, hax8⟩
            rw [hkont1] at hm
            replace hm := hm
            refine a2e (e := .exit 0) hax8 ?_
            refine a1j (a0d (a0f (a0a ?_)))
            refine a0l ag26 sz26 rfl rfl hx22 rfl (i := 5) rfl rfl ?_
            refine a0e rfl rfl rfl ?_
            refine a0l ag30 sz30 rfl rfl hx22 rfl (i := 4) rfl rfl ?_
            refine a0e rfl rfl rfl ?_
            obtain ⟨Fx14, hF14, hx23, hsx1⟩ := a1b hx22 (i := 0) rfl hs13
            have hG2 := (((((hG1.trans hF8).trans hF9).trans hF10).trans hF11).trans hF13).trans hF14
            obtain ⟨v13, hv6, hm⟩ := bind_some hm
            refine a0i ent8 rfl rfl rfl rfl hx23 (a9q _ _ _ _ _ _ hv6 hx23.sat (hs1.mono hG2) (hs2.mono hG2) (hs3.mono hG2) hsx1) ?_
            rintro _ Fx15 _ wx23 hF15 hx24 ⟨as14, ns14, cs14, as15, ns15, cs15, rfl, rfl, hs14, hs15⟩
            refine a0e rfl rfl rfl (a0k rfl rfl rfl rfl (a0k rfl rfl rfl rfl ?_))
            refine a1f ze37 rfl rfl rfl hx24 ?_
            intro b7 wx24 hx25
            refine a0q sz37 rfl hx25 rfl rfl rfl rfl (i := 0) rfl rfl rfl rfl ?_
            intro wx25 hx26
            refine a0b rfl rfl rfl (a0c (a0d (a0f (a0a ?_))))
            refine a0l ag37 sz37 rfl rfl hx26 rfl (i := 1) rfl rfl ?_
            refine a0l ag37 sz37 rfl rfl hx26 rfl (i := 2) rfl rfl ?_
            have hG3 := (((hF10.trans hF11).trans hF13).trans hF14).trans hF15
            have hG4 := ((((hF9.trans hF10).trans hF11).trans hF13).trans hF14).trans hF15
            obtain ⟨v14, hv7, hm⟩ := bind_some hm
            refine a0i ent19 rfl rfl rfl rfl hx26 (b1y _ _ _ _ hv7 hx26.sat (hs10.mono hG3) (hs11.mono hG3) (hs8.mono hG4) (hs9.mono hG4)) ?_
            rintro _ Fx16 _ wx26 hF16 hx27 ⟨as16, ns16, cs16, as17, ns17, cs17, rfl, rfl, hs16, hs17⟩
            refine a0e rfl rfl rfl (a0k rfl rfl rfl rfl (a0k rfl rfl rfl rfl ?_))
            refine a1f ze37 rfl rfl rfl hx27 ?_
            intro b8 wx27 hx28
            refine a0q sz37 rfl hx28 rfl rfl rfl rfl (i := 0) rfl rfl rfl rfl ?_
            intro wx28 hx29
            refine a0b rfl rfl rfl (a0c (a0d (a0f (a0a ?_))))
            refine a0l ag37 sz37 rfl rfl hx29 rfl (i := 0) rfl rfl ?_
            refine a0l ag37 sz37 rfl rfl hx29 rfl (i := 4) rfl rfl ?_
            obtain ⟨v15, hv8, hm⟩ := bind_some hm
            refine a0i ent20 rfl rfl rfl rfl hx29 (b4f _ _ _ _ hv8 hx29.sat hs16 hs17 (((hs6.mono hG2).mono hF15).mono hF16) (((hs7.mono hG2).mono hF15).mono hF16)) ?_
            rintro _ Fx17 _ wx29 hF17 hx30 ⟨as18, ns18, cs18, as19, ns19, cs19, rfl, rfl, hs18, hs19⟩
            refine a0e rfl rfl rfl (a0k rfl rfl rfl rfl (a0k rfl rfl rfl rfl ?_))
            refine a0q sz37 rfl hx30 rfl rfl rfl rfl (i := 0) rfl rfl rfl rfl ?_
            intro wx30 hx31
            refine a0c (a0d (a0f (a0a ?_)))
            refine a0l ag37 sz37 rfl rfl hx31 rfl (i := 3) rfl rfl ?_
            refine a0l ag37 sz37 rfl rfl hx31 rfl (i := 0) rfl rfl ?_
            obtain ⟨v16, hv9, hm⟩ := bind_some hm
            refine a0i ent21 rfl rfl rfl rfl hx31 (b1s _ _ _ _ hv9 hx31.sat (((hs8.mono hG4).mono hF16).mono hF17) (((hs9.mono hG4).mono hF16).mono hF17) hs18 hs19) ?_
            rintro _ Fx18 _ wx31 hF18 hx32 ⟨as20, ns20, cs20, as21, ns21, cs21, rfl, rfl, hs20, hs21⟩
            refine a0e rfl rfl rfl (a0k rfl rfl rfl rfl (a0k rfl rfl rfl rfl ?_))
            refine a1f ze37 rfl rfl rfl hx32 ?_
            intro b9 wx32 hx33
            refine a0q sz37 rfl hx33 rfl rfl rfl rfl (i := 0) rfl rfl rfl rfl ?_
            intro wx33 hx34
            refine a0b rfl rfl rfl (a0c (a0d (a0f (a0a (a0e rfl rfl rfl (a0e rfl rfl rfl ?_))))))
            obtain ⟨v17, hb11, hm⟩ := bind_some hm
            refine a2n 3 (fun a w' => wx33 = w' ∧ Has 186 a [(1, .slice as2 ns2 cs2), (6, .pointer (some ⟨b1, 0, none⟩)), (24, .pointer (some ⟨b7, 0, none⟩)), (28, .pointer (some ⟨b9, 0, none⟩)), (173, .bool v17)]) ?_ ?_
            ·rintro a wx34 ⟨rfl, hax9⟩
             refine a1c hax9 ?_
             refine a0e rfl rfl rfl ?_
             obtain ⟨v18, hb12, hm⟩ := bind_some hm
             refine a2n 11 (fun a w' => ∃ (Fx19 : Frz), Frz.le Fx18 Fx19 ∧ HS F w [] Fx19 [.box b9 37 [.int .i64 v16.1.P.Sign, .slice as20 ns20 cs20, .int .i64 v16.1.Q.Sign, .slice as21 ns21 cs21], .box b8 37 [.int .i64 v15.1.P.Sign, .slice as18 ns18 cs18, .int .i64 v15.1.Q.Sign, .slice as19 ns19 cs19], .box b7 37 [.int .i64 v13.1.P.Sign, .slice as14 ns14 cs14, .int .i64 v13.1.Q.Sign, .slice as15 ns15 cs15], .box b5 37 [.int .i64 v9.1.P.Sign, .slice as10 ns10 cs10, .int .i64 v9.1.Q.Sign, .slice as11 ns11 cs11], .box b4 37 [.int .i64 v8.1.P.Sign, .slice as8 ns8 cs8, .int .i64 v8.1.Q.Sign, .slice as9 ns9 cs9], .box b3 37 [.int .i64 k1.P.Sign, .slice as6 ns6 cs6, .int .i64 k1.Q.Sign, .slice as7 ns7 cs7], .box b2 30 [.slice as3 ns3 cs3, .int .i64 f1.Persons, .int .i64 f1.Flats], .box b1 26 [vs t1.Name, .int .i64 t1.Fee.Op, .int .i64 t1.Fee.N, vs t1.Fee.Name, .slice as1 ns1 cs1, .int .i64 t1.Cap]] w' ∧ Has 186 a [(185, .bool v18)]) ?_ ?_
             ·rintro a wx35 ⟨Fx19, hF19, hx35, hax10⟩
              refine a1c hax10 ?_
              refine a0b rfl rfl rfl (a0c (a0d (a1d ?_)))
              refine a1k rfl rfl ?_
              obtain rfl := Option.some.inj hm
              exact ⟨_, _, _, rfl, hx35.pick [] (by decide) rfl, rfl, rfl⟩
             ·clear hm
              rcases a0g hb12 with ⟨hb13, hb12⟩ | ⟨hb13, hb12⟩
              ·refine a1i 174 rfl hb13 ?_
               refine a0h fa26_1 rfl rfl rfl ?_
               refine a2m (cs' := [.int .i64 t1.Fee.Op, .int .i64 t1.Fee.N, vs t1.Fee.Name, .slice as1 ns1 cs1]) ag24 sz24 rfl rfl hx34 rfl (i := 7) rfl rfl rfl ?_
               refine a0e rfl rfl rfl ?_
               have hG5 := (((hG2.trans hF15).trans hF16).trans hF17).trans hF18
               obtain ⟨v19, hv10, hb12⟩ := bind_some hb12
               refine a0i ent22 rfl rfl rfl rfl hx34 (b5i _ _ _ _ hv10 hx34.sat (hs1.mono hG5) (hs2.mono hG5)) ?_
               rintro _ Fx20 _ wx36 hF20 hx36 ⟨rfl, rfl⟩
               refine a3w rfl rfl rfl (a0e rfl rfl rfl ?_)
               obtain ⟨v20, hb14, hb12⟩ := bind_some hb12
               refine a2n 4 (fun a w' => ∃ (Fx21 : Frz), Frz.le Fx20 Fx21 ∧ HS F w [] Fx21 [.box b9 37 [.int .i64 v16.1.P.Sign, .slice as20 ns20 cs20, .int .i64 v16.1.Q.Sign, .slice as21 ns21 cs21], .box b8 37 [.int .i64 v15.1.P.Sign, .slice as18 ns18 cs18, .int .i64 v15.1.Q.Sign, .slice as19 ns19 cs19], .box b7 37 [.int .i64 v13.1.P.Sign, .slice as14 ns14 cs14, .int .i64 v13.1.Q.Sign, .slice as15 ns15 cs15], .box b5 37 [.int .i64 v9.1.P.Sign, .slice as10 ns10 cs10, .int .i64 v9.1.Q.Sign, .slice as11 ns11 cs11], .box b4 37 [.int .i64 v8.1.P.Sign, .slice as8 ns8 cs8, .int .i64 v8.1.Q.Sign, .slice as9 ns9 cs9], .box b3 37 [.int .i64 k1.P.Sign, .slice as6 ns6 cs6, .int .i64 k1.Q.Sign, .slice as7 ns7 cs7], .box b2 30 [.slice as3 ns3 cs3, .int .i64 f1.Persons, .int .i64 f1.Flats], .box b1 26 [vs t1.Name, .int .i64 t1.Fee.Op, .int .i64 t1.Fee.N, vs t1.Fee.Name, .slice as1 ns1 cs1, .int .i64 t1.Cap]] w' ∧ Has 186 a [(174, .bool true), (184, .bool v20)]) ?_ ?_
               ·rintro a wx37 ⟨Fx21, hF21, hx37, hax11⟩
                refine a1c hax11 ?_
                refine a0o rfl rfl rfl rfl (a0c ?_)
                refine a0n (fun a ha => ?_)
                cases hb12
                exact ⟨_, (hF20.trans hF21), hx37.pick [0, 1, 2, 3, 4, 5, 6, 7] (by decide) rfl, ha.cut (l := [185]) rfl⟩
               ·clear hb12
                rcases a0g hb14 with ⟨hb15, hb14⟩ | ⟨hb15, hb14⟩
                ·refine a1i 180 rfl hb15 ?_
                 refine a0x rfl (by decide) rfl (a0x rfl (by decide) rfl (a0x rfl (by decide) rfl (a0o rfl rfl rfl rfl (a0c ?_))))
                 refine a0n (fun a ha => ?_)
                 cases hb14
                 exact ⟨_, Frz.refl _, hx36.pick [0, 1, 2, 3, 4, 5, 6, 7] (by decide) rfl, ha.cut (l := [174, 184]) rfl⟩
                ·refine a1i 180 rfl hb15 ?_
                 refine a0l ag37 sz37 rfl rfl hx36 rfl (i := 2) rfl rfl ?_
                 refine a0l ag37 sz37 rfl rfl hx36 rfl (i := 0) rfl rfl ?_
                 have hG6 := ((hF16.trans hF17).trans hF18).trans hF20
                 obtain ⟨v21, hv11, hb14⟩ := bind_some hb14
                 refine a0i ent12 rfl rfl rfl rfl hx36 (a7f _ _ _ _ hv11 hx36.sat (hs14.mono hG6) (hs15.mono hG6) (hs20.mono hF20) (hs21.mono hF20)) ?_
                 rintro _ Fx22 _ wx38 hF22 hx38 ⟨rfl, rfl⟩
                 refine a0m rfl rfl rfl rfl (a0c ?_)
                 refine a0n (fun a ha => ?_)
                 cases hb14
                 exact ⟨_, hF22, hx38.pick [0, 1, 2, 3, 4, 5, 6, 7] (by decide) rfl, ha.cut (l := [174, 184]) rfl⟩
              ·refine a1i 174 rfl hb13 ?_
               refine a0x rfl (by decide) rfl (a0x rfl (by decide) rfl (a0x rfl (by decide) rfl (a0x rfl (by decide) rfl (a0x rfl (by decide) rfl (a0x rfl (by decide) rfl (a0x rfl (by decide) rfl (a0x rfl (by decide) rfl (a0x rfl (by decide) rfl (a0x rfl (by decide) rfl (a0m rfl rfl rfl rfl (a0c ?_)))))))))))
               refine a0n (fun a ha => ?_)
               cases hb12
               exact ⟨_, Frz.refl _, hx34.pick [0, 1, 2, 3, 4, 5, 6, 7] (by decide) rfl, ha.cut (l := [185]) rfl⟩
            ·clear hm
             rcases a0g hb11 with ⟨hb16, hb11⟩ | ⟨hb16, hb11⟩
             ·refine a1i 170 rfl hb16 ?_
              refine a0e rfl rfl rfl ?_
              refine a0u rfl rfl rfl rfl rfl ?_
              refine a0o rfl rfl rfl rfl (a0c ?_)
              refine a0n (fun a ha => ?_)
              cases hb11
              exact ⟨rfl, ha.cut (l := [1, 6, 24, 28, 173]) rfl⟩
             ·refine a1i 170 rfl hb16 ?_
              refine a0x rfl (by decide) rfl (a0x rfl (by decide) rfl (a0m rfl rfl rfl rfl (a0c ?_)))
              refine a0n (fun a ha => ?_)
              cases hb11
              exact ⟨rfl, ha.cut (l := [1, 6, 24, 28, 173]) rfl⟩
           ·clear hm hkont1; intro hk1 mx1 K ihx1
            rintro ⟨i1, l1⟩ a wx39 hm ⟨Fx12, as12, ns12, cs12, xss12, hF12, hx21, hs12, hax12⟩
            simp only [a7t] at hm
            refine a1l hax12 ?_
            refine a0f (a0f (a0a (a0e rfl rfl rfl (a0e rfl rfl rfl ?_))))
            refine a1v hs4.len u31 rfl rfl rfl ?_
            refine a0u rfl rfl rfl rfl rfl ?_
            refine a0c (a0d ?_)
            rcases a0g hm with ⟨hb17, hm⟩ | ⟨hb17, hm⟩
            ·refine a0t 109 rfl hb17 ?_
             refine a0z rfl (a1e (a0d (a0f (a1g ?_))))
             obtain ⟨⟨f2, f3, f4, f5⟩, hb18, hm⟩ := bind_some hm
             refine c4c (fun a w' => ∃ (Fx23 : Frz) (b10 : Nat) (as22 : Option Addr) (ns22 : Nat) (cs22 : Nat) (as23 : Option Addr) (ns23 : Nat) (cs23 : Nat), Frz.le Fx12 Fx23 ∧ HS F w [] Fx23 [.box b10 37 [.int .i64 f2, .slice as22 ns22 cs22, .int .i64 f4, .slice as23 ns23 cs23], .row 37 4 as12 ns12 cs12 xss12, .box b5 37 [.int .i64 v9.1.P.Sign, .slice as10 ns10 cs10, .int .i64 v9.1.Q.Sign, .slice as11 ns11 cs11], .box b4 37 [.int .i64 v8.1.P.Sign, .slice as8 ns8 cs8, .int .i64 v8.1.Q.Sign, .slice as9 ns9 cs9], .box b3 37 [.int .i64 k1.P.Sign, .slice as6 ns6 cs6, .int .i64 k1.Q.Sign, .slice as7 ns7 cs7], .box b2 30 [.slice as3 ns3 cs3, .int .i64 f1.Persons, .int .i64 f1.Flats], .box b1 26 [vs t1.Name, .int .i64 t1.Fee.Op, .int .i64 t1.Fee.N, vs t1.Fee.Name, .slice as1 ns1 cs1, .int .i64 t1.Cap]] w' ∧ (SlR (Rp.int .i64) Fx23 as22 ns22 cs22 f3) ∧ (SlR (Rp.int .i64) Fx23 as23 ns23 cs23 f5) ∧ Has 186 a [(1, .slice as2 ns2 cs2), (3, .slice as4 ns4 cs4), (4, .slice as5 ns5 cs5), (6, .pointer (some ⟨b1, 0, none⟩)), (8, .pointer (some ⟨b2, 0, none⟩)), (11, .pointer (some ⟨b3, 0, none⟩)), (13, .bool v1), (14, .pointer (some ⟨b4, 0, none⟩)), (16, .pointer (some ⟨b5, 0, none⟩)), (20, .slice as12 ns12 cs12), (21, .int .i64 i1), (22, .pointer (some ⟨b10, 0, none⟩))]) ?_ ?_
             ·rintro a wx40 ⟨Fx23, b10, as22, ns22, cs22, as23, ns23, cs23, hF23, hx39, hs22, hs23, hax13⟩
              refine a1l hax13 ?_
              refine a0f (a0a ?_)
              refine a0l ag37 sz37 rfl rfl hx39 rfl (i := 0) rfl rfl ?_
              refine a0l ag37 sz37 rfl rfl hx39 rfl (i := 4) rfl rfl ?_
              have hG7 := (((((hG1.trans hF8).trans hF9).trans hF10).trans hF11).trans hF12).trans hF23
              obtain ⟨v22, hv12, hm⟩ := bind_some hm
              refine a0i ent20 rfl rfl rfl rfl hx39 (b4f _ _ _ _ hv12 hx39.sat hs22 hs23 (hs6.mono hG7) (hs7.mono hG7)) ?_
              rintro _ Fx24 _ wx41 hF24 hx40 ⟨as24, ns24, cs24, as25, ns25, cs25, rfl, rfl, hs24, hs25⟩
              refine a0e rfl rfl rfl (a0k rfl rfl rfl rfl (a0k rfl rfl rfl rfl ?_))
              refine a0q sz37 rfl hx40 rfl rfl rfl rfl (i := 0) rfl rfl rfl rfl ?_
              intro wx42 hx41
              refine a0c (a0d (a0f ?_))
              refine a2j (SH Fx24 [.row 37 4 as12 ns12 cs12 xss12, .box b5 37 [.int .i64 v9.1.P.Sign, .slice as10 ns10 cs10, .int .i64 v9.1.Q.Sign, .slice as11 ns11 cs11], .box b4 37 [.int .i64 v8.1.P.Sign, .slice as8 ns8 cs8, .int .i64 v8.1.Q.Sign, .slice as9 ns9 cs9], .box b3 37 [.int .i64 k1.P.Sign, .slice as6 ns6 cs6, .int .i64 k1.Q.Sign, .slice as7 ns7 cs7], .box b2 30 [.slice as3 ns3 cs3, .int .i64 f1.Persons, .int .i64 f1.Flats], .box b1 26 [vs t1.Name, .int .i64 t1.Fee.Op, .int .i64 t1.Fee.N, vs t1.Fee.Name, .slice as1 ns1 cs1, .int .i64 t1.Cap]]) 10 rfl (by kernel_rfl) hx41 ?_
              intro wx43 hx42
              refine d_tk 0 rfl (by kernel_rfl) rfl rfl rfl rfl (hx42.sh (Frz.refl _) [1, 2, 3, 4, 5, 6] (by decide) rfl) (fun _ _ _ _ _ => a0e rfl rfl rfl (a0c (qq rfl))) ?_
              refine d_tk 1 rfl (by kernel_rfl) rfl rfl rfl rfl (hx42.sh (Frz.refl _) [1, 2, 3, 4, 5, 6] (by decide) rfl) (fun _ _ _ _ _ => a0e rfl rfl rfl (a0c (qq rfl))) ?_
              obtain ⟨ex1, he1, hm⟩ := bind_some hm
              obtain ⟨b11, o1, cs1, hf1, hr1, hrun1⟩ := a2x (P := Tryz.prog) (r := rp_Frac) u31 sz37 ((hs4.mono hG7).mono hF24) he1
              obtain ⟨as26, ns26, cs26, as27, ns27, cs27, hc1, hs26, hs27⟩ := hr1
              subst hc1
              refine a9v 2 rfl (by kernel_rfl) (by kernel_rfl) (by kernel_rfl) rfl rfl rfl rfl hrun1 (hx42.sh (Frz.refl _) [1, 2, 3, 4, 5, 6] (by decide) rfl) ?_
              refine d_tk 3 rfl (by kernel_rfl) rfl rfl rfl rfl (hx42.sh (Frz.refl _) [1, 2, 3, 4, 5, 6] (by decide) rfl) (fun _ _ _ hleq hq => a3p ag37 sz37 rfl rfl hq (hf1.mono hleq) rfl rfl (a0c (qq rfl))) ?_
              refine a0y 4 rfl (by kernel_rfl) ?_
              refine a0l ag37 sz37 rfl rfl hx42 rfl (i := 0) rfl rfl ?_
              refine a0r (hx42.sh (Frz.refl _) [1, 2, 3, 4, 5, 6] (by decide) rfl) ?_
              refine a0y 5 rfl (by kernel_rfl) ?_
              obtain ⟨v23, hv13, hm⟩ := bind_some hm
              refine a0i ent21 rfl rfl rfl rfl hx42 (b1s _ _ _ _ hv13 hx42.sat hs26 hs27 hs24 hs25) ?_
              rintro _ Fx25 _ wx44 hF25 hx43 ⟨as28, ns28, cs28, as29, ns29, cs29, rfl, rfl, hs28, hs29⟩
              refine a0r (hx43.sh hF25 [1, 2, 3, 4, 5, 6] (by decide) rfl) ?_
              refine d_tk 6 rfl (by kernel_rfl) rfl rfl rfl rfl (hx43.sh hF25 [1, 2, 3, 4, 5, 6] (by decide) rfl) (fun _ _ _ _ _ => a0e rfl rfl rfl (a0c (qq rfl))) ?_
              refine d_tk 7 rfl (by kernel_rfl) rfl rfl rfl rfl (hx43.sh hF25 [1, 2, 3, 4, 5, 6] (by decide) rfl) (fun _ _ _ _ _ => a0k rfl rfl rfl rfl (a0c (qq rfl))) ?_
              refine d_tk 8 rfl (by kernel_rfl) rfl rfl rfl rfl (hx43.sh hF25 [1, 2, 3, 4, 5, 6] (by decide) rfl) (fun _ _ _ _ _ => a0k rfl rfl rfl rfl (a0c (qq rfl))) ?_
              refine a0y 9 rfl (by kernel_rfl) ?_
              refine a0q sz37 rfl hx43 rfl rfl rfl rfl (i := 0) rfl rfl rfl rfl ?_
              intro wx45 hx44
              refine a0r (hx44.sh hF25 [1, 2, 3, 4, 5, 6] (by decide) rfl) ?_
              refine a2u (by kernel_rfl) ?_
              refine a0d (a0a (a0e rfl rfl rfl ?_))
              refine a0l ag37 sz37 rfl rfl hx44 rfl (i := 0) rfl rfl ?_
              refine a1p (e := 37) (cs := [.int .i64 v23.1.P.Sign, .slice as28 ns28 cs28, .int .i64 v23.1.Q.Sign, .slice as29 ns29 cs29]) (q := 4) rfl rfl hx44 rfl (fun _ => by kernel_rfl) rfl rfl ?_
              intro b12 wx46 hx45
              obtain ⟨l3, hr2, hm⟩ := bind_some hm
              refine a9r (r := rp_Frac) ap31 rfl rfl hx45 rfl rfl (i := 2) (j := 0) rfl rfl (((hs12.mono hF23).mono hF24).mono hF25) ((show RowN rp_Frac Fx25 1 [.int .i64 v23.1.P.Sign, .slice as28 ns28 cs28, .int .i64 v23.1.Q.Sign, .slice as29 ns29 cs29] [v23.1] from ⟨rfl, ⟨_, _, rfl, ⟨as28, ns28, cs28, as29, ns29, cs29, rfl, hs28, hs29⟩, (rfl : RowR rp_Frac _ [] [])⟩⟩)) hr2 ?_
              intro as30 cs30 wx47 hx46 hs30
              refine a0b rfl rfl rfl (a0c (a1q (a0d (a0a (a0e rfl rfl rfl ?_)))))
              refine a0u rfl rfl rfl rfl rfl ?_
              refine a0b rfl rfl rfl (a0c ?_)
              refine a0n (fun a ha => ihx1 ((iadd .i64 i1 1), l3) a _ hm ?_)
              exact ⟨_, as30, (ns12 + 1), cs30, (xss12 ++ [.int .i64 v23.1.P.Sign, .slice as28 ns28 cs28, .int .i64 v23.1.Q.Sign, .slice as29 ns29 cs29]), (((hF12.trans hF23).trans hF24).trans hF25), hx46.pick [2, 3, 4, 5, 6, 7] (by decide) rfl, hs30, ha.cut (l := [1, 3, 4, 6, 8, 11, 13, 14, 16, 20, 21]) rfl⟩
             ·clear hm
              refine a2j (SH Fx12 [.row 37 4 as12 ns12 cs12 xss12, .box b5 37 [.int .i64 v9.1.P.Sign, .slice as10 ns10 cs10, .int .i64 v9.1.Q.Sign, .slice as11 ns11 cs11], .box b4 37 [.int .i64 v8.1.P.Sign, .slice as8 ns8 cs8, .int .i64 v8.1.Q.Sign, .slice as9 ns9 cs9], .box b3 37 [.int .i64 k1.P.Sign, .slice as6 ns6 cs6, .int .i64 k1.Q.Sign, .slice as7 ns7 cs7], .box b2 30 [.slice as3 ns3 cs3, .int .i64 f1.Persons, .int .i64 f1.Flats], .box b1 26 [vs t1.Name, .int .i64 t1.Fee.Op, .int .i64 t1.Fee.N, vs t1.Fee.Name, .slice as1 ns1 cs1, .int .i64 t1.Cap]]) 15 rfl (by kernel_rfl) hx21 ?_
              intro wx48 hx47
              refine d_tk 0 rfl (by kernel_rfl) rfl rfl rfl rfl (hx47.sh (Frz.refl _) [0, 1, 2, 3, 4, 5] (by decide) rfl) (fun _ _ _ _ _ => a0e rfl rfl rfl (a0c (qq rfl))) ?_
              refine d_tk 1 rfl (by kernel_rfl) rfl rfl rfl rfl (hx47.sh (Frz.refl _) [0, 1, 2, 3, 4, 5] (by decide) rfl) (fun _ _ _ _ _ => a0e rfl rfl rfl (a0c (qq rfl))) ?_
              obtain ⟨ex2, he2, hb18⟩ := bind_some hb18
              obtain ⟨b13, o2, cs2, hf2, hr3, hrun2⟩ := a2x (P := Tryz.prog) (r := rp_Frac) u31 sz37 ((((((hs5.mono hG1).mono hF8).mono hF9).mono hF10).mono hF11).mono hF12) he2
              obtain ⟨as31, ns31, cs31, as32, ns32, cs32, hc2, hs31, hs32⟩ := hr3
              subst hc2
              refine a9v 2 rfl (by kernel_rfl) (by kernel_rfl) (by kernel_rfl) rfl rfl rfl rfl hrun2 (hx47.sh (Frz.refl _) [0, 1, 2, 3, 4, 5] (by decide) rfl) ?_
              refine d_tk 3 rfl (by kernel_rfl) rfl rfl rfl rfl (hx47.sh (Frz.refl _) [0, 1, 2, 3, 4, 5] (by decide) rfl) (fun _ _ _ hleq hq => a3p ag37 sz37 rfl rfl hq (hf2.mono hleq) rfl rfl (a0c (qq rfl))) ?_
              refine d_tk 4 rfl (by kernel_rfl) rfl rfl rfl rfl (hx47.sh (Frz.refl _) [0, 1, 2, 3, 4, 5] (by decide) rfl) (fun _ _ _ _ _ => a0e rfl rfl rfl (a0c (qq rfl))) ?_
              refine d_tk 5 rfl (by kernel_rfl) rfl rfl rfl rfl (hx47.sh (Frz.refl _) [0, 1, 2, 3, 4, 5] (by decide) rfl) (fun _ _ _ _ _ => a0e rfl rfl rfl (a0c (qq rfl))) ?_
              obtain ⟨ex3, he3, hb18⟩ := bind_some hb18
              obtain ⟨b14, o3, cs3, hf3, hr4, hrun3⟩ := a2x (P := Tryz.prog) (r := rp_Frac) u31 sz37 ((((((hs4.mono hG1).mono hF8).mono hF9).mono hF10).mono hF11).mono hF12) he3
              obtain ⟨as33, ns33, cs33, as34, ns34, cs34, hc3, hs33, hs34⟩ := hr4
              subst hc3
              refine a9v 6 rfl (by kernel_rfl) (by kernel_rfl) (by kernel_rfl) rfl rfl rfl rfl hrun3 (hx47.sh (Frz.refl _) [0, 1, 2, 3, 4, 5] (by decide) rfl) ?_
              refine d_tk 7 rfl (by kernel_rfl) rfl rfl rfl rfl (hx47.sh (Frz.refl _) [0, 1, 2, 3, 4, 5] (by decide) rfl) (fun _ _ _ hleq hq => a3p ag37 sz37 rfl rfl hq (hf3.mono hleq) rfl rfl (a0c (qq rfl))) ?_
              refine b0e 8 12 rfl rfl (by kernel_rfl) ?_ ?_
              ·obtain ⟨v24, hv14, hb18⟩ := bind_some hb18
               refine a0i ent19 rfl rfl rfl rfl hx47 (b1y _ _ _ _ hv14 hx47.sat hs31 hs32 hs33 hs34) ?_
               rintro _ Fx26 _ wx49 hF26 hx48 ⟨as35, ns35, cs35, as36, ns36, cs36, rfl, rfl, hs35, hs36⟩
               refine a0r (hx48.sh hF26 [0, 1, 2, 3, 4, 5] (by decide) rfl) ?_
               refine d_tk 9 rfl (by kernel_rfl) rfl rfl rfl rfl (hx48.sh hF26 [0, 1, 2, 3, 4, 5] (by decide) rfl) (fun _ _ _ _ _ => a0e rfl rfl rfl (a0c (qq rfl))) ?_
               refine d_tk 10 rfl (by kernel_rfl) rfl rfl rfl rfl (hx48.sh hF26 [0, 1, 2, 3, 4, 5] (by decide) rfl) (fun _ _ _ _ _ => a0k rfl rfl rfl rfl (a0c (qq rfl))) ?_
               refine d_tk 11 rfl (by kernel_rfl) rfl rfl rfl rfl (hx48.sh hF26 [0, 1, 2, 3, 4, 5] (by decide) rfl) (fun _ _ _ _ _ => a0k rfl rfl rfl rfl (a0c (qq rfl))) ?_
               refine a0y 12 rfl (by kernel_rfl) ?_
               refine a1f ze37 rfl rfl rfl hx48 ?_
               intro b15 wx50 hx49
               refine a0r (hx49.sh hF26 [1, 2, 3, 4, 5, 6] (by decide) rfl) ?_
               refine a0y 13 rfl (by kernel_rfl) ?_
               refine a0q sz37 rfl hx49 rfl rfl rfl rfl (i := 0) rfl rfl rfl rfl ?_
               intro wx51 hx50
               refine a0r (hx50.sh hF26 [1, 2, 3, 4, 5, 6] (by decide) rfl) ?_
               refine d_tk 14 rfl (by kernel_rfl) rfl rfl rfl rfl (hx50.sh hF26 [1, 2, 3, 4, 5, 6] (by decide) rfl) (fun _ _ _ _ _ => a0b rfl rfl rfl (a0c (qq rfl))) ?_
               refine a2u (by kernel_rfl) ?_
               refine a0n (fun a ha => ?_)
               cases hb18
               exact ⟨_, b15, as35, ns35, cs35, as36, ns36, cs36, hF26, hx50.pick [0, 1, 2, 3, 4, 5, 6] (by decide) rfl, hs35, hs36, ha.cut (l := [1, 3, 4, 6, 8, 11, 13, 14, 16, 20, 21, 22]) rfl⟩
              ·refine a1f ze37 rfl rfl rfl hx47 ?_
               intro b15 wx49 hx48
               refine a0r (hx48.sh (Frz.refl _) [1, 2, 3, 4, 5, 6] (by decide) rfl) ?_
               refine a0y 8 rfl (by kernel_rfl) ?_
               obtain ⟨v24, hv14, hb18⟩ := bind_some hb18
               refine a0i ent19 rfl rfl rfl rfl hx48 (b1y _ _ _ _ hv14 hx48.sat hs31 hs32 hs33 hs34) ?_
               rintro _ Fx26 _ wx50 hF26 hx49 ⟨as35, ns35, cs35, as36, ns36, cs36, rfl, rfl, hs35, hs36⟩
               refine a0r (hx49.sh hF26 [1, 2, 3, 4, 5, 6] (by decide) rfl) ?_
               refine d_tk 9 rfl (by kernel_rfl) rfl rfl rfl rfl (hx49.sh hF26 [1, 2, 3, 4, 5, 6] (by decide) rfl) (fun _ _ _ _ _ => a0e rfl rfl rfl (a0c (qq rfl))) ?_
               refine d_tk 10 rfl (by kernel_rfl) rfl rfl rfl rfl (hx49.sh hF26 [1, 2, 3, 4, 5, 6] (by decide) rfl) (fun _ _ _ _ _ => a0k rfl rfl rfl rfl (a0c (qq rfl))) ?_
               refine d_tk 11 rfl (by kernel_rfl) rfl rfl rfl rfl (hx49.sh hF26 [1, 2, 3, 4, 5, 6] (by decide) rfl) (fun _ _ _ _ _ => a0k rfl rfl rfl rfl (a0c (qq rfl))) ?_
               refine a0y 13 rfl (by kernel_rfl) ?_
               refine a0q sz37 rfl hx49 rfl rfl rfl rfl (i := 0) rfl rfl rfl rfl ?_
               intro wx51 hx50
               refine a0r (hx50.sh hF26 [1, 2, 3, 4, 5, 6] (by decide) rfl) ?_
               refine d_tk 14 rfl (by kernel_rfl) rfl rfl rfl rfl (hx50.sh hF26 [1, 2, 3, 4, 5, 6] (by decide) rfl) (fun _ _ _ _ _ => a0b rfl rfl rfl (a0c (qq rfl))) ?_
               refine a2u (by kernel_rfl) ?_
               refine a0n (fun a ha => ?_)
               cases hb18
               exact ⟨_, b15, as35, ns35, cs35, as36, ns36, cs36, hF26, hx50.pick [0, 1, 2, 3, 4, 5, 6] (by decide) rfl, hs35, hs36, ha.cut (l := [1, 3, 4, 6, 8, 11, 13, 14, 16, 20, 21, 22]) rfl⟩
            ·refine a0t 109 rfl hb17 ?_
             refine a0s rfl (a3r (a0v (a0v ?_)))
             refine fun a ha => hk1 l1 a _ hm ?_
             exact ⟨_, as12, ns12, cs12, xss12, hF12, hx21.pick [0, 1, 2, 3, 4, 5] (by decide) rfl, hs12, ha.cut (l := [1, 6, 8, 11, 13, 14, 16, 20]) rfl⟩
         ·clear hm
          rcases a0g hb9 with ⟨hb19, hb9⟩ | ⟨hb19, hb9⟩
          ·refine a1i 99 rfl hb19 ?_
           refine a0l ag37 sz37 rfl rfl hx18 rfl (i := 1) rfl rfl ?_
           refine a0l ag37 sz37 rfl rfl hx18 rfl (i := 0) rfl rfl ?_
           obtain ⟨v25, hv15, hb9⟩ := bind_some hb9
           refine a0i ent12 rfl rfl rfl rfl hx18 (a7f _ _ _ _ hv15 hx18.sat ((hs8.mono hF9).mono hF10) ((hs9.mono hF9).mono hF10) (hs10.mono hF10) (hs11.mono hF10)) ?_
           rintro _ Fx27 _ wx52 hF27 hx51 ⟨rfl, rfl⟩
           refine a3w rfl rfl rfl (a0o rfl rfl rfl rfl (a0c ?_))
           refine a0n (fun a ha => ?_)
           cases hb9
           exact ⟨_, hF27, hx51.pick [0, 1, 2, 3, 4] (by decide) rfl, ha.cut (l := [1, 3, 4, 6, 8, 11, 13, 14, 16, 104]) rfl⟩
          ·refine a1i 99 rfl hb19 ?_
           refine a0x rfl (by decide) rfl (a0x rfl (by decide) rfl (a0x rfl (by decide) rfl (a0x rfl (by decide) rfl (a0m rfl rfl rfl rfl (a0c ?_)))))
           refine a0n (fun a ha => ?_)
           cases hb9
           exact ⟨_, Frz.refl _, hx18.pick [0, 1, 2, 3, 4] (by decide) rfl, ha.cut (l := [1, 3, 4, 6, 8, 11, 13, 14, 16, 104]) rfl⟩
       ·clear hm
        rcases a0g hb7 with ⟨hb20, hb7⟩ | ⟨hb20, hb7⟩
        ·refine a1i 85 rfl hb20 ?_
         refine a0x rfl (by decide) rfl (a0x rfl (by decide) rfl (a0o rfl rfl rfl rfl (a0c ?_)))
         refine a0n (fun a ha => ?_)
         cases hb7
         exact ⟨rfl, ha.cut (l := [1, 3, 4, 6, 8, 11, 13, 14, 16, 88]) rfl⟩
        ·refine a1i 85 rfl hb20 ?_
         refine a0e rfl rfl rfl ?_
         refine a0u rfl rfl rfl rfl rfl ?_
         refine a0m rfl rfl rfl rfl (a0c ?_)
         refine a0n (fun a ha => ?_)
         cases hb7
         exact ⟨rfl, ha.cut (l := [1, 3, 4, 6, 8, 11, 13, 14, 16, 88]) rfl⟩
     ·clear hm
      rcases a0g hb5 with ⟨hb21, hb5⟩ | ⟨hb21, hb5⟩
      ·refine b2e 60 rfl hb21 ?_
       refine d_of 30 rfl (by kernel_rfl) rfl rfl rfl (hx10.sh ((((hF2.trans hF3).trans hF4).trans hF5).trans hF6) [0, 1, 2] (by decide) rfl) ?_
       refine d_of 31 rfl (by kernel_rfl) rfl rfl rfl (hx10.sh ((((hF2.trans hF3).trans hF4).trans hF5).trans hF6) [0, 1, 2] (by decide) rfl) ?_
       refine d_of 32 rfl (by kernel_rfl) rfl rfl rfl (hx10.sh ((((hF2.trans hF3).trans hF4).trans hF5).trans hF6) [0, 1, 2] (by decide) rfl) ?_
       refine d_of 33 rfl (by kernel_rfl) rfl rfl rfl (hx10.sh ((((hF2.trans hF3).trans hF4).trans hF5).trans hF6) [0, 1, 2] (by decide) rfl) ?_
       refine d_tk 34 rfl (by kernel_rfl) rfl rfl rfl rfl (hx10.sh ((((hF2.trans hF3).trans hF4).trans hF5).trans hF6) [0, 1, 2] (by decide) rfl) (fun _ _ _ _ _ => a0o rfl rfl rfl rfl (a0c (qq rfl))) ?_
       refine b2d hK5 (by kernel_rfl) (fun a ha => ?_)
       cases hb5
       exact ⟨_, Frz.refl _, hx10.pick [0, 1, 2] (by decide) rfl, ha.cut (l := [1, 3, 4, 6, 8, 11, 13, 65]) rfl⟩
      ·refine b2e 60 rfl hb21 ?_
       refine d_tk 30 rfl (by kernel_rfl) rfl rfl rfl rfl (hx10.sh ((((hF2.trans hF3).trans hF4).trans hF5).trans hF6) [0, 1, 2] (by decide) rfl) (fun _ _ _ _ hq => a0l ag37 sz37 rfl rfl hq rfl (i := 0) rfl rfl (a0c (qq rfl))) ?_
       refine a0y 31 rfl (by kernel_rfl) ?_
       obtain ⟨v26, hv16, hb5⟩ := bind_some hb5
       refine a0i ent17 rfl rfl rfl rfl hx10 (a9o _ _ _ hv16 hx10.sat) ?_
       rintro _ Fx28 _ wx53 hF28 hx52 ⟨as37, ns37, cs37, as38, ns38, cs38, rfl, rfl, hs37, hs38⟩
       refine a0r (hx52.sh (((((hF2.trans hF3).trans hF4).trans hF5).trans hF6).trans hF28) [0, 1, 2] (by decide) rfl) ?_
       refine a0y 32 rfl (by kernel_rfl) ?_
       have hG8 := (((((hF1.trans hF2).trans hF3).trans hF4).trans hF5).trans hF6).trans hF28
       obtain ⟨v27, hv17, hb5⟩ := bind_some hb5
       refine a0i ent16 rfl rfl rfl rfl hx52 (a8p _ _ _ _ hv17 hx52.sat (hs6.mono hG8) (hs7.mono hG8) hs37 hs38) ?_
       rintro _ Fx29 _ wx54 hF29 hx53 ⟨rfl, rfl⟩
       refine a0r (hx53.sh ((((((hF2.trans hF3).trans hF4).trans hF5).trans hF6).trans hF28).trans hF29) [0, 1, 2] (by decide) rfl) ?_
       refine d_tk 33 rfl (by kernel_rfl) rfl rfl rfl rfl (hx53.sh ((((((hF2.trans hF3).trans hF4).trans hF5).trans hF6).trans hF28).trans hF29) [0, 1, 2] (by decide) rfl) (fun _ _ _ _ _ => a0u rfl rfl rfl rfl rfl (a0c (qq rfl))) ?_
       refine d_tk 34 rfl (by kernel_rfl) rfl rfl rfl rfl (hx53.sh ((((((hF2.trans hF3).trans hF4).trans hF5).trans hF6).trans hF28).trans hF29) [0, 1, 2] (by decide) rfl) (fun _ _ _ _ _ => a0m rfl rfl rfl rfl (a0c (qq rfl))) ?_
       refine b2d hK5 (by kernel_rfl) (fun a ha => ?_)
       cases hb5
       exact ⟨_, (hF28.trans hF29), hx53.pick [0, 1, 2] (by decide) rfl, ha.cut (l := [1, 3, 4, 6, 8, 11, 13, 65]) rfl⟩
    ·clear hm
     rcases a0g hb4 with ⟨hb22, hb4⟩ | ⟨hb22, hb4⟩
     ·refine b2e 55 rfl hb22 ?_
      refine d_of 25 rfl (by kernel_rfl) rfl rfl rfl (hx9.sh (((hF2.trans hF3).trans hF4).trans hF5) [0, 1, 2] (by decide) rfl) ?_
      refine d_of 26 rfl (by kernel_rfl) rfl rfl rfl (hx9.sh (((hF2.trans hF3).trans hF4).trans hF5) [0, 1, 2] (by decide) rfl) ?_
      refine d_of 27 rfl (by kernel_rfl) rfl rfl rfl (hx9.sh (((hF2.trans hF3).trans hF4).trans hF5) [0, 1, 2] (by decide) rfl) ?_
      refine d_tk 28 rfl (by kernel_rfl) rfl rfl rfl rfl (hx9.sh (((hF2.trans hF3).trans hF4).trans hF5) [0, 1, 2] (by decide) rfl) (fun _ _ _ _ _ => a0o rfl rfl rfl rfl (a0c (qq rfl))) ?_
      refine b2d hK4 (by kernel_rfl) (fun a ha => ?_)
      cases hb4
      exact ⟨_, Frz.refl _, hx9.pick [0, 1, 2] (by decide) rfl, ha.cut (l := [1, 3, 4, 6, 8, 11, 13, 59]) rfl⟩
     ·refine b2e 55 rfl hb22 ?_
      refine d_tk 25 rfl (by kernel_rfl) rfl rfl rfl rfl (hx9.sh (((hF2.trans hF3).trans hF4).trans hF5) [0, 1, 2] (by decide) rfl) (fun _ _ _ _ hq => a0l ag37 sz37 rfl rfl hq rfl (i := 0) rfl rfl (a0c (qq rfl))) ?_
      refine a0y 26 rfl (by kernel_rfl) ?_
      have hG9 := (((hF1.trans hF2).trans hF3).trans hF4).trans hF5
      obtain ⟨v28, hv18, hb4⟩ := bind_some hb4
      refine a0i ent15 rfl rfl rfl rfl hx9 (b2g _ _ _ hv18 hx9.sat (hs6.mono hG9) (hs7.mono hG9)) ?_
      rintro _ Fx30 _ wx55 hF30 hx54 ⟨rfl, rfl⟩
      refine a0r (hx54.sh ((((hF2.trans hF3).trans hF4).trans hF5).trans hF30) [0, 1, 2] (by decide) rfl) ?_
      refine d_tk 27 rfl (by kernel_rfl) rfl rfl rfl rfl (hx54.sh ((((hF2.trans hF3).trans hF4).trans hF5).trans hF30) [0, 1, 2] (by decide) rfl) (fun _ _ _ _ _ => a0u rfl rfl rfl rfl rfl (a0c (qq rfl))) ?_
      refine d_tk 28 rfl (by kernel_rfl) rfl rfl rfl rfl (hx54.sh ((((hF2.trans hF3).trans hF4).trans hF5).trans hF30) [0, 1, 2] (by decide) rfl) (fun _ _ _ _ _ => a0m rfl rfl rfl rfl (a0c (qq rfl))) ?_
      refine b2d hK4 (by kernel_rfl) (fun a ha => ?_)
      cases hb4
      exact ⟨_, hF30, hx54.pick [0, 1, 2] (by decide) rfl, ha.cut (l := [1, 3, 4, 6, 8, 11, 13, 59]) rfl⟩
   ·clear hm
    rcases a0g hb3 with ⟨hb23, hb3⟩ | ⟨hb23, hb3⟩
    ·refine b2e 50 rfl hb23 ?_
     refine d_of 20 rfl (by kernel_rfl) rfl rfl rfl (hx8.sh ((hF2.trans hF3).trans hF4) [0, 1, 2] (by decide) rfl) ?_
     refine d_of 21 rfl (by kernel_rfl) rfl rfl rfl (hx8.sh ((hF2.trans hF3).trans hF4) [0, 1, 2] (by decide) rfl) ?_
     refine d_of 22 rfl (by kernel_rfl) rfl rfl rfl (hx8.sh ((hF2.trans hF3).trans hF4) [0, 1, 2] (by decide) rfl) ?_
     refine d_tk 23 rfl (by kernel_rfl) rfl rfl rfl rfl (hx8.sh ((hF2.trans hF3).trans hF4) [0, 1, 2] (by decide) rfl) (fun _ _ _ _ _ => a0o rfl rfl rfl rfl (a0c (qq rfl))) ?_
     refine b2d hK3 (by kernel_rfl) (fun a ha => ?_)
     cases hb3
     exact ⟨_, Frz.refl _, hx8.pick [0, 1, 2] (by decide) rfl, ha.cut (l := [1, 3, 4, 6, 8, 11, 13, 54]) rfl⟩
    ·refine b2e 50 rfl hb23 ?_
     refine d_tk 20 rfl (by kernel_rfl) rfl rfl rfl rfl (hx8.sh ((hF2.trans hF3).trans hF4) [0, 1, 2] (by decide) rfl) (fun _ _ _ _ hq => a0l ag37 sz37 rfl rfl hq rfl (i := 0) rfl rfl (a0c (qq rfl))) ?_
     refine a0y 21 rfl (by kernel_rfl) ?_
     have hG10 := ((hF1.trans hF2).trans hF3).trans hF4
     obtain ⟨v29, hv19, hb3⟩ := bind_some hb3
     refine a0i ent14 rfl rfl rfl rfl hx8 (a2y _ _ _ hv19 hx8.sat (hs6.mono hG10) (hs7.mono hG10)) ?_
     rintro _ Fx31 _ wx56 hF31 hx55 ⟨rfl, rfl⟩
     refine a0r (hx55.sh (((hF2.trans hF3).trans hF4).trans hF31) [0, 1, 2] (by decide) rfl) ?_
     refine d_tk 22 rfl (by kernel_rfl) rfl rfl rfl rfl (hx55.sh (((hF2.trans hF3).trans hF4).trans hF31) [0, 1, 2] (by decide) rfl) (fun _ _ _ _ _ => a3w rfl rfl rfl (a0c (qq rfl))) ?_
     refine d_tk 23 rfl (by kernel_rfl) rfl rfl rfl rfl (hx55.sh (((hF2.trans hF3).trans hF4).trans hF31) [0, 1, 2] (by decide) rfl) (fun _ _ _ _ _ => a0m rfl rfl rfl rfl (a0c (qq rfl))) ?_
     refine b2d hK3 (by kernel_rfl) (fun a ha => ?_)
     cases hb3
     exact ⟨_, hF31, hx55.pick [0, 1, 2] (by decide) rfl, ha.cut (l := [1, 3, 4, 6, 8, 11, 13, 54]) rfl⟩
  ·clear hm
   rcases a0g hb2 with ⟨hb24, hb2⟩ | ⟨hb24, hb2⟩
   ·refine b2e 45 rfl hb24 ?_
    refine d_of 15 rfl (by kernel_rfl) rfl rfl rfl (hx7.sh (hF2.trans hF3) [0, 1, 2] (by decide) rfl) ?_
    refine d_of 16 rfl (by kernel_rfl) rfl rfl rfl (hx7.sh (hF2.trans hF3) [0, 1, 2] (by decide) rfl) ?_
    refine d_of 17 rfl (by kernel_rfl) rfl rfl rfl (hx7.sh (hF2.trans hF3) [0, 1, 2] (by decide) rfl) ?_
    refine d_tk 18 rfl (by kernel_rfl) rfl rfl rfl rfl (hx7.sh (hF2.trans hF3) [0, 1, 2] (by decide) rfl) (fun _ _ _ _ _ => a0o rfl rfl rfl rfl (a0c (qq rfl))) ?_
    refine b2d hK2 (by kernel_rfl) (fun a ha => ?_)
    cases hb2
    exact ⟨_, Frz.refl _, hx7.pick [0, 1, 2] (by decide) rfl, ha.cut (l := [1, 3, 4, 6, 8, 11, 13, 49]) rfl⟩
   ·refine b2e 45 rfl hb24 ?_
    refine d_tk 15 rfl (by kernel_rfl) rfl rfl rfl rfl (hx7.sh (hF2.trans hF3) [0, 1, 2] (by decide) rfl) (fun _ _ _ _ hq => a0l ag37 sz37 rfl rfl hq rfl (i := 0) rfl rfl (a0c (qq rfl))) ?_
    refine a0y 16 rfl (by kernel_rfl) ?_
    obtain ⟨v30, hv20, hb2⟩ := bind_some hb2
    refine a0i ent13 rfl rfl rfl rfl hx7 (b5k _ _ _ _ hv20 hx7.sat (((hs6.mono hF1).mono hF2).mono hF3) (((hs7.mono hF1).mono hF2).mono hF3)) ?_
    rintro _ Fx32 _ wx57 hF32 hx56 ⟨rfl, rfl⟩
    refine a0r (hx56.sh ((hF2.trans hF3).trans hF32) [0, 1, 2] (by decide) rfl) ?_
    refine d_tk 17 rfl (by kernel_rfl) rfl rfl rfl rfl (hx56.sh ((hF2.trans hF3).trans hF32) [0, 1, 2] (by decide) rfl) (fun _ _ _ _ _ => a3w rfl rfl rfl (a0c (qq rfl))) ?_
    refine d_tk 18 rfl (by kernel_rfl) rfl rfl rfl rfl (hx56.sh ((hF2.trans hF3).trans hF32) [0, 1, 2] (by decide) rfl) (fun _ _ _ _ _ => a0m rfl rfl rfl rfl (a0c (qq rfl))) ?_
    refine b2d hK2 (by kernel_rfl) (fun a ha => ?_)
    cases hb2
    exact ⟨_, hF32, hx56.pick [0, 1, 2] (by decide) rfl, ha.cut (l := [1, 3, 4, 6, 8, 11, 13, 49]) rfl⟩
 ·clear hm
  rcases a0g hb1 with ⟨hb25, hb1⟩ | ⟨hb25, hb1⟩
  ·refine b2e 37 rfl hb25 ?_
   refine d_of 7 rfl (by kernel_rfl) rfl rfl rfl (hx6.sh hF2 [0, 1, 2] (by decide) rfl) ?_
   refine d_of 8 rfl (by kernel_rfl) rfl rfl rfl (hx6.sh hF2 [0, 1, 2] (by decide) rfl) ?_
   refine d_of 9 rfl (by kernel_rfl) rfl rfl rfl (hx6.sh hF2 [0, 1, 2] (by decide) rfl) ?_
   refine d_of 10 rfl (by kernel_rfl) rfl rfl rfl (hx6.sh hF2 [0, 1, 2] (by decide) rfl) ?_
   refine d_of 11 rfl (by kernel_rfl) rfl rfl rfl (hx6.sh hF2 [0, 1, 2] (by decide) rfl) ?_
   refine d_of 12 rfl (by kernel_rfl) rfl rfl rfl (hx6.sh hF2 [0, 1, 2] (by decide) rfl) ?_
   refine d_tk 13 rfl (by kernel_rfl) rfl rfl rfl rfl (hx6.sh hF2 [0, 1, 2] (by decide) rfl) (fun _ _ _ _ _ => a0o rfl rfl rfl rfl (a0c (qq rfl))) ?_
   refine b2d hK1 (by kernel_rfl) (fun a ha => ?_)
   cases hb1
   exact ⟨_, Frz.refl _, hx6.pick [0, 1, 2] (by decide) rfl, ha.cut (l := [1, 3, 4, 6, 8, 11, 13, 44]) rfl⟩
  ·refine b2e 37 rfl hb25 ?_
   refine d_tk 7 rfl (by kernel_rfl) rfl rfl rfl rfl (hx6.sh hF2 [0, 1, 2] (by decide) rfl) (fun _ _ _ _ hq => a0l ag26 sz26 rfl rfl hq rfl (i := 2) rfl rfl (a0c (qq rfl))) ?_
   refine d_tk 8 rfl (by kernel_rfl) rfl rfl rfl rfl (hx6.sh hF2 [0, 1, 2] (by decide) rfl) (fun _ _ _ _ _ => a0e rfl rfl rfl (a0c (qq rfl))) ?_
   refine d_tk 9 rfl (by kernel_rfl) rfl rfl rfl rfl (hx6.sh hF2 [0, 1, 2] (by decide) rfl) (fun _ _ _ _ hq => a0l ag30 sz30 rfl rfl hq rfl (i := 1) rfl rfl (a0c (qq rfl))) ?_
   refine d_tk 10 rfl (by kernel_rfl) rfl rfl rfl rfl (hx6.sh hF2 [0, 1, 2] (by decide) rfl) (fun _ _ _ _ _ => a0e rfl rfl rfl (a0c (qq rfl))) ?_
   refine a0y 11 rfl (by kernel_rfl) ?_
   obtain ⟨v31, hv21, hb1⟩ := bind_some hb1
   refine a0i ent7 rfl rfl rfl rfl hx6 (b5o _ _ _ _ _ _ hv21 hx6.sat ((hs1.mono hF1).mono hF2) ((hs2.mono hF1).mono hF2) ((hs3.mono hF1).mono hF2) ((hs5.mono hF1).mono hF2)) ?_
   rintro _ Fx33 _ wx58 hF33 hx57 ⟨rfl, rfl⟩
   refine a0r (hx57.sh (hF2.trans hF33) [0, 1, 2] (by decide) rfl) ?_
   refine d_tk 12 rfl (by kernel_rfl) rfl rfl rfl rfl (hx57.sh (hF2.trans hF33) [0, 1, 2] (by decide) rfl) (fun _ _ _ _ _ => a3w rfl rfl rfl (a0c (qq rfl))) ?_
   refine d_tk 13 rfl (by kernel_rfl) rfl rfl rfl rfl (hx57.sh (hF2.trans hF33) [0, 1, 2] (by decide) rfl) (fun _ _ _ _ _ => a0m rfl rfl rfl rfl (a0c (qq rfl))) ?_
   refine b2d hK1 (by kernel_rfl) (fun a ha => ?_)
   cases hb1
   exact ⟨_, hF33, hx57.pick [0, 1, 2] (by decide) rfl, ha.cut (l := [1, 3, 4, 6, 8, 11, 13, 44]) rfl⟩
end Go.Proofs.YtknpjecpcmajiaaGreat.M

namespace Go.Proofs.YtknpjecpcmajiaaGreat.Rt
open Go
def Ev {α : Type} (f : Nat → Option α) (r : α) : Prop := ∃ N, ∀ n, N ≤ n → f n = some r
section
variable {α β : Type}
theorem Ev.pure (a : α) : Ev (fun _ => some a) a := ⟨0, fun _ _ => rfl⟩
theorem Ev.all {f : Nat → Option α} {r : α} (h : ∀ n, f n = some r) : Ev f r := ⟨0, fun n _ => h n⟩
theorem Ev.bind {x : Nat → Option α} {f : Nat → α → Option β} {a : α} {b : β} (hx : Ev x a) (hf : Ev (fun n => f n a) b) : Ev (fun n => (x n).bind (f n)) b := by
  obtain ⟨N, hN⟩ := hx
  obtain ⟨M, hM⟩ := hf
  refine ⟨max N M, fun n hn => ?_⟩
  show (x n).bind (f n) = some b
  rw [hN n (by omega)]
  exact hM n (by omega)
theorem Ev.step {x : Option α} {f : Nat → α → Option β} {a : α} {b : β} (hx : x = some a) (hf : Ev (fun n => f n a) b) : Ev (fun n => x.bind (f n)) b := by
  subst hx; exact hf
theorem Ev.then {x : Nat → Option α} {b : α} {c : Bool} {y : Nat → Option α} (hc : c = true) (h : Ev x b) : Ev (fun n => bif c then x n else y n) b := by subst hc; exact h
theorem Ev.else {x : Nat → Option α} {b : α} {c : Bool} {y : Nat → Option α} (hc : c = false) (h : Ev y b) : Ev (fun n => bif c then x n else y n) b := by subst hc; exact h
theorem Ev.from {f g : Nat → Option α} {r : α} (N : Nat) (h : ∀ n, N ≤ n → f n = g n) (hg : Ev g r) : Ev f r := by
  obtain ⟨M, hM⟩ := hg
  exact ⟨max N M, fun n hn => by rw [h n (by omega)]; exact hM n (by omega)⟩
theorem Ev.eq {f : Nat → Option α} {r s : α} (h : Ev f r) (e : r = s) : Ev f s := e ▸ h
theorem Ev.uniq {f : Nat → Option α} {r s : α} (h : Ev f r) (k : Ev f s) : r = s := by
  obtain ⟨N, hN⟩ := h
  obtain ⟨M, hM⟩ := k
  have h1 := hN (max N M) (by omega)
  rw [hM (max N M) (by omega)] at h1
  exact (Option.some.inj h1).symm
end
theorem c8p (x : Int) : IntKind.i64.wrap x = if x % 18446744073709551616 ≥ 9223372036854775808 then x % 18446744073709551616 - 18446744073709551616 else x % 18446744073709551616 := by
  simp [IntKind.wrap, IntKind.bits, IntKind.signed]
theorem a5m {x : Int} (h1 : -9223372036854775808 ≤ x) (h2 : x ≤ 9223372036854775807) : IntKind.i64.wrap x = x := by
  rw [c8p]; split <;> omega
theorem b2j (x : Int) : IntKind.u64.wrap x = x % 18446744073709551616 := by
  simp [IntKind.wrap, IntKind.bits, IntKind.signed]
theorem a3o {x y : Int} (h1 : -9223372036854775808 ≤ x + y) (h2 : x + y ≤ 9223372036854775807) : iadd .i64 x y = x + y := a5m h1 h2
theorem a2i {x y : Int} (h1 : -9223372036854775808 ≤ x - y) (h2 : x - y ≤ 9223372036854775807) : isub .i64 x y = x - y := a5m h1 h2
theorem a7h {x y : Int} (h1 : -9223372036854775808 ≤ x * y) (h2 : x * y ≤ 9223372036854775807) : imul .i64 x y = x * y := a5m h1 h2
theorem b9t (k : IntKind) (x : Int) (m : Nat) (hk : k.bits = 64) (hm : m < 64) : (BitVec.ofInt k.bits x &&& BitVec.ofInt k.bits ((2 ^ m - 1 : Nat) : Int)).toNat = (x % 18446744073709551616).toNat % 2 ^ m := by
  rw [BitVec.toNat_and, BitVec.toNat_ofInt, BitVec.toNat_ofInt, hk]
  have h2 : (((2 ^ m - 1 : Nat) : Int) % ((2 ^ 64 : Nat) : Int)).toNat = 2 ^ m - 1 := by
    have : 2 ^ m < 2 ^ 64 := Nat.pow_lt_pow_right (by omega) hm
    rw [← Int.natCast_emod, Int.toNat_natCast, Nat.mod_eq_of_lt (by omega)]
  rw [h2, Nat.and_two_pow_sub_one_eq_mod]
  rfl
theorem b2s (x : Int) : iand .i64 x 1048575 = x % 1048576 := by
  have h := b9t .i64 x 20 rfl (by omega)
  have e : ((2 ^ 20 - 1 : Nat) : Int) = 1048575 := by decide
  rw [e] at h
  unfold iand
  rw [h, a5m (by omega) (by omega)]
  omega
theorem c3r {x : Int} (h0 : 0 ≤ x) (h1 : x < 18446744073709551616) : iand .u64 x 1048575 = x % 1048576 := by
  have h := b9t .u64 x 20 rfl (by omega)
  have e : ((2 ^ 20 - 1 : Nat) : Int) = 1048575 := by decide
  rw [e] at h
  unfold iand
  rw [h, b2j]
  omega
theorem c7s (x : Int) : iand .i64 x 1 = x % 2 := by
  have h := b9t .i64 x 1 rfl (by omega)
  have e : ((2 ^ 1 - 1 : Nat) : Int) = 1 := by decide
  rw [e] at h
  unfold iand
  rw [h, a5m (by omega) (by omega)]
  omega
theorem b7a (x : Int) : shr .i64 x 20 = some (x / 1048576) := by
  unfold shr
  rw [if_neg (by omega), Int.fdiv_eq_ediv_of_nonneg _ (by decide)]
  rfl
theorem d0w (x : Int) : shr .u64 x 20 = some (x / 1048576) := by
  unfold shr
  rw [if_neg (by omega), Int.fdiv_eq_ediv_of_nonneg _ (by decide)]
  rfl
theorem b7j {x : Int} (h0 : -8796093022208 ≤ x) (h1 : x < 8796093022208) : shl .i64 x 20 = some (x * 1048576) := by
  unfold shl
  rw [if_neg (by omega), show (2 : Int) ^ (min (20 : Int).toNat IntKind.i64.bits) = 1048576 from by decide, a5m (by omega) (by omega)]
theorem b7u {x y : Int} (h0 : 0 ≤ x) (h1 : x < 8796093022208) (h2 : 0 ≤ y) (h3 : y < 1048576) : ior .i64 (x * 1048576) y = x * 1048576 + y := by
  obtain ⟨p, rfl⟩ := Int.eq_ofNat_of_zero_le h0
  obtain ⟨q, rfl⟩ := Int.eq_ofNat_of_zero_le h2
  unfold ior
  rw [BitVec.toNat_or, BitVec.toNat_ofInt, BitVec.toNat_ofInt, show IntKind.i64.bits = 64 from rfl]
  have e1 : (((p : Int) * 1048576) % ((2 ^ 64 : Nat) : Int)).toNat = 2 ^ 20 * p := by omega
  have e2 : ((q : Int) % ((2 ^ 64 : Nat) : Int)).toNat = q := by omega
  rw [e1, e2, ← Nat.two_pow_add_eq_or_of_lt (by omega), a5m (by omega) (by omega)]
  omega
theorem b7w {x y : Int} (h0 : 0 ≤ x) (h1 : x ≤ 9223372036854775807) (h2 : 0 < y) : quo .i64 x y = some (x / y) := by
  unfold quo
  have h3 := Int.ediv_nonneg h0 (Int.le_of_lt h2)
  have h4 := Int.ediv_le_self y h0
  rw [if_neg (by omega), Int.tdiv_eq_ediv_of_nonneg h0, a5m (by omega) (by omega)]
theorem b6v {x y : Int} (h0 : 0 ≤ x) (h2 : 0 < y) : rem x y = some (x % y) := by
  unfold rem
  rw [if_neg (by omega), Int.tmod_eq_emod_of_nonneg h0]
section
variable {α : Type}
theorem b2u (l : List α) (i : Nat) : ix l (i : Int) = l[i]? := by simp [ix]
theorem a7l (p : List α) (x : α) (s : List α) {i : Int} (hi : i = p.length) : ix (p ++ x :: s) i = some x := by
  subst hi; rw [b2u]; simp
theorem a8j (p : List α) (x y : α) (s : List α) {i : Int} (hi : i = p.length) : lset (p ++ x :: s) i y = some (p ++ y :: s) := by
  subst hi
  unfold lset
  rw [if_pos ⟨by omega, by simp; omega⟩]
  simp
theorem b8m {b : Nat} {z : α} {n : Nat} (h : n * b ≤ 140737488355328) : mks b z (n : Int) = some (List.replicate n z) := by
  unfold mks; rw [if_pos ⟨by omega, by simpa using h⟩]; simp
theorem b4k {b : Nat} {l m : List α} (h : (l.length + m.length) * b ≤ 140737488355328) : app b l m = some (l ++ m) := by unfold app; rw [if_pos h]
theorem c3a {l : List α} {p q : Nat} (h : p ≤ q) (h2 : q ≤ l.length) : lsl l (p : Int) (q : Int) = some ((l.take q).drop p) := by
  unfold lsl; rw [if_pos ⟨by omega, by omega, by omega⟩]; simp
end
end Go.Proofs.YtknpjecpcmajiaaGreat.Rt

namespace Go.Proofs.YtknpjecpcmajiaaGreat.Rt
open Go
theorem inc64 {i : Nat} (h : i < 4611686018427387904) : iadd .i64 (i : Int) 1 = ((i + 1 : Nat) : Int) := by rw [a3o (by omega) (by omega)]; omega
theorem c9i {i : Nat} (h : i < 4611686018427387904) : isub .i64 ((i + 1 : Nat) : Int) 1 = (i : Int) := by rw [a2i (by omega) (by omega)]; omega
theorem drop_cons {α : Type} {a : List α} {i : Nat} {x : α} {xs : List α} (h : a.drop i = x :: xs) : ix a (i : Int) = some x ∧ a.drop (i + 1) = xs ∧ i < a.length := by
  have h1 : i < a.length := by
    rcases Nat.lt_or_ge i a.length with h2 | h2
    · exact h2
    · rw [List.drop_eq_nil_of_le h2] at h; cases h
  rw [List.drop_eq_getElem_cons h1] at h
  injection h with h2 h3
  exact ⟨by rw [b2u, List.getElem?_eq_getElem h1, h2], h3, h1⟩
theorem drop_nil {α : Type} {a : List α} {i : Nat} (h : a.drop i = []) : a.length ≤ i := by simpa using h
theorem a4w {α : Type} {a : List α} {i : Nat} {x : α} {xs : List α} (h : a.drop i = x :: xs) : decide ((i : Int) < (a.length : Int)) = true := by
  have := (drop_cons h).2.2
  exact decide_eq_true (by omega)
theorem a9t {α : Type} {a : List α} {i : Nat} (h : a.drop i = []) : decide ((i : Int) < (a.length : Int)) = false := by
  have := drop_nil h
  exact decide_eq_false (by omega)
section
variable {β : Type} {r : β} {c d : Bool} {y : Nat → Option Bool} {f : Nat → Bool → Option β}
theorem guard {V : Bool} {rest : Nat → Option Bool} (h : V = false → Ev rest true) : Ev (fun n => bif V then some true else rest n) true := by
  cases V with
  | true => exact Ev.then rfl (Ev.pure _)
  | false => exact Ev.else rfl (h rfl)
theorem Ev.conv {α : Type} {x y : Nat → Option α} {s : α} (e : ∀ n, x n = y n) (h : Ev y s) : Ev x s := by
  obtain ⟨N, hN⟩ := h
  exact ⟨N, fun n hn => by rw [e n]; exact hN n hn⟩
end
theorem c8r {α : Type} {b : Nat} {l m : List α} (h : (l.length + m.length) * b ≤ 140737488355328) : app b l m = some (l ++ m) := b4k h
end Go.Proofs.YtknpjecpcmajiaaGreat.Rt

namespace Go.Proofs.YtknpjecpcmajiaaGreat.Rt
open Go
theorem Ev.suc {α : Type} {f g : Nat → Option α} {r : α} (e : ∀ n, f (n + 1) = g n) (h : Ev g r) : Ev f r := by
  obtain ⟨N, hN⟩ := h
  refine ⟨N + 1, fun n hn => ?_⟩
  obtain ⟨k, rfl⟩ : ∃ k, n = k + 1 := ⟨n - 1, by omega⟩
  rw [e]; exact hN k (by omega)
def Tt {α : Type} (Q : α → Prop) (f : Nat → Option α) : Prop := ∃ r, Ev f r ∧ Q r
section
variable {α β : Type} {P : α → Prop} {Q : β → Prop}
theorem Tt.pure {r : β} (h : Q r) : Tt Q (fun _ => some r) := ⟨r, Ev.pure r, h⟩
theorem Tt.of {f : Nat → Option β} {r : β} (h : Ev f r) (hq : Q r) : Tt Q f := ⟨r, h, hq⟩
theorem Tt.all {f : Nat → Option β} {r : β} (h : ∀ n, f n = some r) (hq : Q r) : Tt Q f := ⟨r, Ev.all h, hq⟩
theorem Tt.bind {x : Nat → Option α} {g : Nat → α → Option β} (hx : Tt P x) (h : ∀ r, P r → Tt Q (fun n => g n r)) : Tt Q (fun n => (x n).bind (g n)) := by
  obtain ⟨r, h1, h2⟩ := hx
  obtain ⟨s, h3, h4⟩ := h r h2
  exact ⟨s, Ev.bind h1 h3, h4⟩
theorem Tt.evb {x : Nat → Option α} {a : α} {g : Nat → α → Option β} (hx : Ev x a) (h : Tt Q (fun n => g n a)) : Tt Q (fun n => (x n).bind (g n)) := by
  obtain ⟨s, h3, h4⟩ := h
  exact ⟨s, Ev.bind hx h3, h4⟩
theorem Tt.step {x : Option α} {g : Nat → α → Option β} {a : α} (hx : x = some a) (h : Tt Q (fun n => g n a)) : Tt Q (fun n => x.bind (g n)) := by
  subst hx; exact h
theorem Tt.bif {c : Bool} {x y : Nat → Option β} (h1 : c = true → Tt Q x) (h2 : c = false → Tt Q y) : Tt Q (fun n => bif c then x n else y n) := by
  cases c
  · exact h2 rfl
  · exact h1 rfl
theorem Tt.weak {P' : α → Prop} {x : Nat → Option α} (hx : Tt P x) (h : ∀ r, P r → P' r) : Tt P' x := by
  obtain ⟨r, h1, h2⟩ := hx
  exact ⟨r, h1, h r h2⟩
theorem Tt.suc {f g : Nat → Option β} (e : ∀ n, f (n + 1) = g n) (h : Tt Q g) : Tt Q f := by
  obtain ⟨r, h1, h2⟩ := h
  exact ⟨r, Ev.suc e h1, h2⟩
theorem Tt.cond {c d : Bool} {g : Nat → Bool → Option β} (h : ∀ b, Tt Q (fun n => g n b)) (k : Bool) : Tt Q (fun n => (bif c then some k else some d).bind (g n)) := by
  cases c <;> exact h _
end
end Go.Proofs.YtknpjecpcmajiaaGreat.Rt

namespace Go.Proofs.YtknpjecpcmajiaaGreat.Lx
abbrev Bs := List UInt8
def isLetter (c : UInt8) : Bool := decide ((97 ≤ c.toNat ∧ c.toNat ≤ 122) ∨ (65 ≤ c.toNat ∧ c.toNat ≤ 90))
def d0j (c : UInt8) : Bool := decide (48 ≤ c.toNat ∧ c.toNat ≤ 57)
def c1y (c : UInt8) : Bool := decide ((97 ≤ c.toNat ∧ c.toNat ≤ 122) ∨ (65 ≤ c.toNat ∧ c.toNat ≤ 90) ∨ (48 ≤ c.toNat ∧ c.toNat ≤ 57) ∨ c.toNat = 95)
def c8z (c : UInt8) : Bool := decide (32 ≤ c.toNat ∧ c.toNat ≤ 126)
def c0x (p : UInt8 → Bool) : Bs → Nat
  | [] => 0
  | c :: r => bif p c then c0x p r + 1 else 0
def name (l : Bs) : Bool := !l.isEmpty && isLetter (l.headD 0) && decide (l.length ≤ 20) && (c0x c1y l == l.length)
def dec (l : Bs) : Nat := l.foldl (fun n c => 10 * n + (c.toNat - 48)) 0
def maxNumber : Nat := 1099511627776
def c7b (l : Bs) : Bool := !l.isEmpty && (c0x d0j l == l.length) && !(l.headD 0 == 48 && !(l == [48])) && decide (l.length ≤ 13)
def number (l : Bs) : Nat × Bool := if c7b l ∧ dec l ≤ maxNumber then (dec l, true) else (0, false)
def qloop : Bs → Bs → Nat → Option (Bs × Nat)
  | [], _, _ => none
  | c :: r, acc, n =>
    if c8z c = false then none
    else if c.toNat = 34 then some (acc, n)
    else if c.toNat = 92 then
      match r with
      | [] => none
      | d :: r' => if d.toNat = 34 ∨ d.toNat = 92 then qloop r' (acc ++ [d]) (n + 2) else none
    else qloop r (acc ++ [c]) (n + 1)
def quoted (l : Bs) : Bs × Nat :=
  match qloop (l.drop 1) [] 1 with
  | none => ([], 0)
  | some (v, n) => if v.length > 400 then ([], 0) else (v, n + 1)
end Go.Proofs.YtknpjecpcmajiaaGreat.Lx

namespace Go.Proofs.YtknpjecpcmajiaaGreat.Lx
open Rt M Go
theorem c0k {s r : Rt.Bs} {i : Nat} {c : UInt8} (h : s.drop i = c :: r) : sidx s (i : Int) = some (c.toNat : Int) := by
  have h1 : s[i]? = some c := by
    have := congrArg (·[0]?) h
    simpa using this
  simp [sidx, h1]
theorem c6u {s r : Rt.Bs} {i : Nat} {c : UInt8} (h : s.drop i = c :: r) : i + r.length + 1 = s.length := by
  have := congrArg List.length h
  simp only [List.length_drop, List.length_cons] at this
  omega
theorem c5d {s r : Rt.Bs} {i : Nat} {c : UInt8} (h : s.drop i = c :: r) : s.drop (i + 1) = r := by
  rw [← List.drop_drop, h, List.drop_one, List.tail_cons]
theorem drop_nil {s : Rt.Bs} {i : Nat} (h : s.drop i = []) (hi : i ≤ s.length) : i = s.length := by
  have := congrArg List.length h
  simp only [List.length_drop, List.length_nil] at this
  omega
theorem a5m (x : Int) (h1 : -9223372036854775808 ≤ x) (h2 : x < 9223372036854775808) : IntKind.i64.wrap x = x := by
  simp [IntKind.wrap, IntKind.signed, IntKind.bits]
  split <;> omega
theorem c7z (a b : Nat) (h : a + b < 9223372036854775808) : iadd .i64 (a : Int) (b : Int) = ((a + b : Nat) : Int) := by
  rw [iadd, a5m _ (by omega) (by omega)]; simp
theorem c4t (a : Nat) (h : a + 1 < 9223372036854775808) : iadd .i64 (a : Int) 1 = ((a + 1 : Nat) : Int) := c7z a 1 h
theorem c3g {p : UInt8 → Bool} (h : (List.range 256).all (fun k => p (UInt8.ofNat k)) = true) (c : UInt8) : p c = true := by
  have := List.all_eq_true.mp h c.toNat (by simpa using c.toNat_lt)
  simpa using this
theorem letter_eq (n : Nat) (c : UInt8) : a7y n (c.toNat : Int) = some (isLetter c) :=
  of_decide_eq_true (c3g (p := fun c => decide (a7y 0 (c.toNat : Int) = some (isLetter c))) (by decide +kernel) c)
theorem c7r (n : Nat) (c : UInt8) : a8y n (c.toNat : Int) = some (c1y c) :=
  of_decide_eq_true (c3g (p := fun c => decide (a8y 0 (c.toNat : Int) = some (c1y c))) (by decide +kernel) c)
theorem c0g {p : UInt8 → Bool} {f : Int → Option Bool} (hf : ∀ c : UInt8, f c.toNat = some (p c)) {s : Rt.Bs} (hs : s.length < 9223372036854775807) {n : Nat} {kont : Int → Option Int} :
    ∀ {r : Rt.Bs} {i m : Nat}, s.drop i = r → i ≤ s.length → r.length < m → a5x n s f kont m (i : Int) = kont ((i + c0x p r : Nat) : Int)
  | [], i, m + 1, h, hi, _ => by
    have := drop_nil h hi
    rw [b0f]
    simp [this, c0x]
  | c :: r, i, m + 1, h, hi, hm => by
    have h1 := c6u h
    rw [b0f, c0k h, decide_eq_true (by omega)]
    simp only [cond_true, Option.bind_some, hf]
    cases hp : p c
    · simp [c0x, hp]
    · rw [cond_true, c4t _ (by omega), c0g hf hs (c5d h) (by omega) (by simp only [List.length_cons] at hm; omega)]
      simp only [c0x, hp, cond_true]
      congr 2; omega
theorem c9p {p : UInt8 → Bool} {f : Int → Option Bool} (hf : ∀ c : UInt8, f c.toNat = some (p c)) {s : Rt.Bs} (hs : s.length < 9223372036854775807) {n : Nat} (hn : s.length < n) :
    b1d n s f = some ((c0x p s : Nat) : Int) := by
  have := c0g hf hs (n := n) (kont := fun nx2 => some nx2) (r := s) (i := 0) (m := n) (by simp) (by omega) hn
  simpa [b1d] using this
theorem headD_idx {s : Rt.Bs} (h : s ≠ []) : sidx s 0 = some ((s.headD 0).toNat : Int) := by
  cases s with
  | nil => exact absurd rfl h
  | cons c r => exact c0k (i := 0) rfl
theorem name_eq {s : Rt.Bs} (hs : s.length < 9223372036854775807) {n : Nat} (hn : s.length < n) : a5g n s = some (name s) := by
  cases hs0 : s with
  | nil => rfl
  | cons c r =>
    rw [← hs0]
    have h0 : s ≠ [] := by rw [hs0]; simp
    have h1 : (s == []) = false := by simp [hs0]
    simp only [a5g, h1, Bool.not_false, cond_true, headD_idx h0, Option.bind_some, letter_eq, c9p (c7r n) hs hn, name]
    have h2 : s.isEmpty = false := by simp [hs0]
    rw [h2]
    cases isLetter (s.headD 0) <;> by_cases h3 : s.length ≤ 20 <;> simp [h3]
    · rw [decide_eq_true (by omega)]
      simp only [cond_true, Option.some.injEq]
      rw [Bool.eq_iff_iff]; simp; omega
    · rw [decide_eq_false (by omega)]; simp
end Go.Proofs.YtknpjecpcmajiaaGreat.Lx

namespace Go.Proofs.YtknpjecpcmajiaaGreat.Lx
open Rt M Go
def ints (l : Rt.Bs) : List Int := l.map fun c => (c.toNat : Int)
end Go.Proofs.YtknpjecpcmajiaaGreat.Lx

namespace Go.Proofs.YtknpjecpcmajiaaGreat.Ta
open Go Rt M
inductive Fit : M.Expr → Prop
  | mk {o n : Int} {s : Rt.Bs} {l : List M.Expr} : l.length ≤ 1000000 → (∀ y, y ∈ l → Fit y) → Fit ⟨o, n, s, l⟩
theorem Fit.leaf (o n : Int) (s : Rt.Bs) : Fit ⟨o, n, s, []⟩ := Fit.mk (by simp) (by simp)
theorem Fit.one {x : M.Expr} (o n : Int) (s : Rt.Bs) (h : Fit x) : Fit ⟨o, n, s, [x]⟩ := Fit.mk (by simp) (by simpa using h)
theorem Fit.two {x y : M.Expr} (o n : Int) (s : Rt.Bs) (h : Fit x) (h2 : Fit y) : Fit ⟨o, n, s, [x, y]⟩ := Fit.mk (by simp) (by simp [h, h2])
end Go.Proofs.YtknpjecpcmajiaaGreat.Ta

namespace Go.Proofs.YtknpjecpcmajiaaGreat.Ta
open Go Rt M
theorem left {k m : Nat} (h : k < m) : ∃ j, m = j + 1 := ⟨m - 1, by omega⟩
theorem pred {k m : Nat} (h : k + 1 < m) : ∃ j, m = j + 1 ∧ k < j := ⟨m - 1, by omega, by omega⟩
theorem c2h (s : Rt.Bs) : Ev (fun n => a5g n s) (Lx.name s) := by
  refine ⟨21, fun n hn => ?_⟩
  by_cases h : s.length ≤ 20
  · exact Lx.name_eq (by omega) (by omega)
  · have h0 : s ≠ [] := by intro e; rw [e] at h; simp at h
    have h1 : (s == []) = false := by simpa using h0
    have h2 : Lx.name s = false := by unfold Lx.name; rw [decide_eq_false h]; simp
    rw [h2]
    unfold a5g
    dsimp only
    rw [h1, Bool.not_false, cond_true, Lx.headD_idx h0, Option.bind_some, Lx.letter_eq, Option.bind_some, Option.bind_some]
    cases Lx.isLetter (s.headD 0)
    · rfl
    · rw [cond_true, decide_eq_false (show ¬ (s.length : Int) ≤ 20 by omega)]; rfl
theorem c1w (n : Nat) (l : List Rt.Bs) (s : Rt.Bs) (hl : l.length < 4611686018427387904) : ∀ (us : List Rt.Bs) (i m : Nat), l.drop i = us → us.length < m →
    a1t n l s (some (-1)) m (i : Int) = some (if s ∈ us then ((i + us.idxOf s : Nat) : Int) else -1)
  | [], i, m + 1, hd, _ => by rw [a4e, a9t hd]; rfl
  | x :: us, i, m + 1, hd, hm => by
    obtain ⟨h1, h2, h3⟩ := drop_cons hd
    have ih := c1w n l s hl us (i + 1) m h2 (by simp only [List.length_cons] at hm; omega)
    rw [a4e, a4w hd, cond_true, h1, Option.bind_some]
    by_cases h : s = x
    · subst h
      rw [beq_self_eq_true, cond_true, if_pos (by simp)]; simp
    · have e : (s == x) = false := by simpa using h
      rw [e, cond_false, inc64 (by omega), ih]
      by_cases h5 : s ∈ us
      · rw [if_pos h5, if_pos (List.mem_cons_of_mem _ h5), List.idxOf_cons, show (x == s) = false by simpa using fun h6 => h h6.symm]
        simp only [cond_false]; congr 1; omega
      · rw [if_neg h5, if_neg (by simp [h, h5])]
theorem b4h {l : List Rt.Bs} (s : Rt.Bs) (hl : l.length < 4611686018427387904) : Ev (fun n => a1m n l s) (decide (s ∈ l)) := by
  refine ⟨l.length + 1, fun n hn => ?_⟩
  unfold a1m a1z
  dsimp only
  have h : a1t n l s (some (-1)) n 0 = _ := c1w n l s hl l 0 n rfl (by omega)
  rw [h, Option.bind_some]
  by_cases h5 : s ∈ l
  · rw [if_pos h5, decide_eq_true h5, decide_eq_true (by omega)]
  · rw [if_neg h5, decide_eq_false h5]; rfl
def c2z (l : List Rt.Bs) : Nat → List Rt.Bs → Bool
  | _, [] => decide ((l.length : Int) ≤ 6)
  | i, s :: us => Lx.name s && (!decide (s ∈ l.take i) && c2z l (i + 1) us)
def c4h (l : List Rt.Bs) : Bool := c2z l 0 l
theorem c4f (l : List Rt.Bs) (hl : l.length < 4611686018427387904) : ∀ (us : List Rt.Bs) (i : Nat), l.drop i = us → ∃ N, ∀ n m, N ≤ n → us.length < m →
    a5e n l (some (decide ((l.length : Int) ≤ 6))) m (i : Int) = some (c2z l i us)
  | [], i, hd => by
    refine ⟨0, fun n m _ hm => ?_⟩
    obtain ⟨m, rfl⟩ := left hm
    rw [a8v, a9t hd]; rfl
  | s :: us, i, hd => by
    obtain ⟨h1, h2, h3⟩ := drop_cons hd
    obtain ⟨N, ih⟩ := c4f l hl us (i + 1) h2
    obtain ⟨N1, e1⟩ := c2h s
    obtain ⟨N2, e2⟩ := b4h (l := l.take i) s (by simp; omega)
    refine ⟨max N (max N1 N2), fun n m hn hm => ?_⟩
    obtain ⟨m, rfl, hm2⟩ := pred (by simpa using hm)
    have e1 : a5g n s = some (Lx.name s) := e1 n (by omega)
    have e2 : a1m n (l.take i) s = some (decide (s ∈ l.take i)) := e2 n (by omega)
    rw [a8v, a4w hd, cond_true, h1, Option.bind_some, e1, Option.bind_some]
    unfold c2z
    cases Lx.name s with
    | false => rfl
    | true =>
      have e3 : lsl l 0 (i : Int) = some (l.take i) := by
        have := c3a (l := l) (p := 0) (q := i) (by omega) (by omega)
        simpa using this
      rw [Bool.not_true, cond_false, e3, Option.bind_some, e2, Option.bind_some, Option.bind_some, Bool.true_and]
      cases decide (s ∈ l.take i) with
      | true => rfl
      | false => rw [cond_false, inc64 (by omega), ih n m (by omega) hm2]; rfl
theorem c2y {l : List Rt.Bs} (hl : l.length < 4611686018427387904) : Ev (fun n => a9j n l) (c4h l) := by
  obtain ⟨N, h⟩ := c4f l hl l 0 rfl
  exact ⟨N + l.length + 1, fun n hn => h n n (by omega) (by omega)⟩
def c1v (o : Int) : Int := if o ≤ 4 then 0 else if o = 14 then 1 else if o = 11 then 3 else 2
theorem d1n (n : Nat) (o : Int) : a8x n o = some (c1v o) := by
  unfold a8x c1v
  by_cases h1 : o ≤ 4
  · rw [decide_eq_true h1, if_pos h1]; rfl
  · rw [decide_eq_false h1, if_neg h1, cond_false]
    by_cases h2 : o = 14
    · subst h2; rfl
    · rw [show (o == 14) = false by simpa using h2, if_neg h2, cond_false]
      by_cases h3 : o = 11
      · subst h3; rfl
      · rw [show (o == 11) = false by simpa using h3, if_neg h3]; rfl
inductive Shp : M.Expr → Prop
  | mk {o n : Int} {s : Rt.Bs} {l : List M.Expr} : 0 ≤ o → o ≤ 16 → (l.length : Int) = c1v o → (∀ y, y ∈ l → Shp y) → Shp ⟨o, n, s, l⟩
end Go.Proofs.YtknpjecpcmajiaaGreat.Ta

namespace Go.Proofs.YtknpjecpcmajiaaGreat.Tp
open Go Rt M Ta
mutual
def cnt : M.Expr → Nat
  | ⟨_, _, _, l⟩ => cnts l + 1
def cnts : List M.Expr → Nat
  | [] => 0
  | x :: l => cnt x + cnts l
 end
mutual
def dep : M.Expr → Nat
  | ⟨_, _, _, l⟩ => deps l + 1
def deps : List M.Expr → Nat
  | [] => 0
  | x :: l => max (dep x) (deps l)
 end
theorem c9d {a : Nat} (h : 1 ≤ a) (h2 : a ≤ 1000000) : isub .i64 (a : Int) 1 = ((a - 1 : Nat) : Int) := by rw [a2i (by omega) (by omega)]; omega
def Siz (d c lv lf : Nat) (r : Int × Bool) : Prop := (r.2 = true → d ≤ lv ∧ c ≤ lf ∧ r.1 = ((lf - c : Nat) : Int)) ∧ (d ≤ lv → c ≤ lf → r.2 = true)
theorem c2r (x : M.Expr) (lv : Nat) (hv1 : 1 ≤ lv) (hv : lv ≤ 1000000) (hx : x.Args.length ≤ 1000000) : ∀ (us : List M.Expr) (i lf : Nat), lf ≤ 1000000 → x.Args.drop i = us → (∀ y, y ∈ us → ∀ lv lf : Nat, lv ≤ 1000000 → lf ≤ 1000000 → Tt (Siz (dep y) (cnt y) lv lf) (fun n => tariff_sized n y lv lf)) →
    ∃ N r, Siz (deps us) (cnts us) (lv - 1) lf r ∧ ∀ n m, N ≤ n → us.length < m → a4j n (tariff_sized n) x (lv : Int) (fun f2 => some (f2, true)) m (i : Int) (lf : Int) = some r
  | [], i, lf, hlf, hd, _ => by
    refine ⟨0, (lf, true), ⟨fun _ => ⟨Nat.zero_le _, Nat.zero_le _, rfl⟩, fun _ _ => rfl⟩, fun n m _ hm => ?_⟩
    obtain ⟨m, rfl⟩ := left hm
    rw [a7g, a9t hd]; rfl
  | y :: us, i, lf, hlf, hd, H => by
    obtain ⟨h1, h2, h3⟩ := drop_cons hd
    obtain ⟨⟨l2, b⟩, ⟨N1, e1⟩, q1, q2⟩ := H y (by simp) (lv - 1) lf (by omega) hlf
    rw [← c9d hv1 hv] at e1
    have hcs : cnts (y :: us) = cnt y + cnts us := rfl
    have hds : deps (y :: us) = max (dep y) (deps us) := rfl
    cases b with
    | false =>
      have h5 : ¬(dep y ≤ lv - 1 ∧ cnt y ≤ lf) := fun h => by have := q2 h.1 h.2; cases this
      refine ⟨N1, (l2, false), ⟨fun h => (by cases h), fun h6 h7 => absurd ⟨by omega, by omega⟩ h5⟩, fun n m hn hm => ?_⟩
      obtain ⟨m, rfl⟩ := left hm
      have e1 : tariff_sized n y (isub .i64 lv 1) lf = some (l2, false) := e1 n (by omega)
      rw [a7g, a4w hd, cond_true, h1, Option.bind_some, e1, Option.bind_some]; rfl
    | true =>
      obtain ⟨h5, h6, h7⟩ := q1 rfl
      dsimp only at h7
      subst h7
      obtain ⟨N, r, ⟨hr1, hr2⟩, ih⟩ := c2r x lv hv1 hv hx us (i + 1) (lf - cnt y) (by omega) h2 (fun z hz => H z (by simp [hz]))
      refine ⟨max N N1, r, ⟨fun h => ?_, fun h8 h9 => hr2 (by omega) (by omega)⟩, fun n m hn hm => ?_⟩
      · obtain ⟨g1, g2, g3⟩ := hr1 h
        exact ⟨by omega, by omega, by rw [g3]; congr 1; omega⟩
      · obtain ⟨m, rfl, hm2⟩ := pred (by simpa using hm)
        have e1 : tariff_sized n y (isub .i64 lv 1) lf = some (((lf - cnt y : Nat) : Int), true) := e1 n (by omega)
        rw [a7g, a4w hd, cond_true, h1, Option.bind_some, e1, Option.bind_some]
        dsimp only
        rw [Bool.not_true, cond_false, inc64 (by omega), ih n m (by omega) hm2]
theorem c9l {x : M.Expr} (hx : Fit x) : ∀ lv lf : Nat, lv ≤ 1000000 → lf ≤ 1000000 → Tt (Siz (dep x) (cnt x) lv lf) (fun n => tariff_sized n x lv lf) := by
  induction hx with
  | @mk o k s l hl _ ih =>
    intro lv lf hv hf
    have hd : dep ⟨o, k, s, l⟩ = deps l + 1 := rfl
    have hc : cnt ⟨o, k, s, l⟩ = cnts l + 1 := rfl
    refine Tt.suc (g := fun n => _) (fun n => b3q n _ _ _) ?_
    have hsub : isub .i64 (lf : Int) 1 = (lf : Int) - 1 := a2i (by omega) (by omega)
    rw [hsub]
    refine Tt.bind (P := fun b => b = true ↔ (lv < 1 ∨ lf < 1)) (Tt.bif (fun h => Tt.pure (by have := of_decide_eq_true h; simp only [true_iff]; omega)) (fun h => Tt.pure ?_)) ?_
    · have := of_decide_eq_false h
      rw [decide_eq_true_iff]; omega
    intro b hb
    refine Tt.bif (fun h => Tt.pure ⟨fun h => (by cases h), fun h1 h2 => ?_⟩) (fun h => ?_)
    · have := hb.1 h; omega
    have h3 : ¬(lv < 1 ∨ lf < 1) := fun h4 => by have := hb.2 h4; rw [this] at h; cases h
    have e : (lf : Int) - 1 = ((lf - 1 : Nat) : Int) := by omega
    rw [e]
    obtain ⟨N, r, ⟨hr1, hr2⟩, hh⟩ := c2r ⟨o, k, s, l⟩ lv (by omega) hv hl l 0 (lf - 1) (by omega) rfl ih
    refine ⟨r, ⟨N + l.length + 1, fun n hn => hh n n (by omega) (by omega)⟩, fun h => ?_, fun h4 h5 => hr2 (by omega) (by omega)⟩
    obtain ⟨g1, g2, g3⟩ := hr1 h
    exact ⟨by omega, by omega, by rw [g3]; congr 1; omega⟩
def a8d (o n : Int) (s : Rt.Bs) : Prop := if o = 0 then (0 ≤ n ∧ n ≤ 1099511627776) ∧ s = [] else if o = 1 ∨ o = 4 then n = 0 ∧ Lx.name s = true else n = 0 ∧ s = []
inductive Shx : M.Expr → Prop
  | mk {o n : Int} {s : Rt.Bs} {l : List M.Expr} : 0 ≤ o → o ≤ 16 → (l.length : Int) = c1v o → a8d o n s → (∀ y, y ∈ l → Shx y) → Shx ⟨o, n, s, l⟩
theorem b5u (l : List M.Expr) (hl : l.length ≤ 1000000) (f : Nat → M.Expr → Option Bool) (Q : M.Expr → Prop) : ∀ (us : List M.Expr) (i : Nat), l.drop i = us → (∀ y, y ∈ us → Tt (fun b => b = false ↔ Q y) (fun n => f n y)) →
    ∃ N r, (r = -1 ∧ (∀ y, y ∈ us → Q y) ∨ 0 ≤ r ∧ ¬∀ y, y ∈ us → Q y) ∧ ∀ n m, N ≤ n → us.length < m → a1n n l (f n) (some (-1)) m (i : Int) = some r
  | [], i, hd, _ => by
    refine ⟨0, -1, .inl ⟨rfl, by simp⟩, fun n m _ hm => ?_⟩
    obtain ⟨m, rfl⟩ := left hm
    rw [a2o, a9t hd]; rfl
  | y :: us, i, hd, H => by
    obtain ⟨h1, h2, h3⟩ := drop_cons hd
    obtain ⟨b, ⟨N1, e1⟩, hb⟩ := H y (by simp)
    obtain ⟨N, r, hr, ih⟩ := b5u l hl f Q us (i + 1) h2 (fun z hz => H z (by simp [hz]))
    cases b with
    | true =>
      refine ⟨N1, (i : Int), .inr ⟨by omega, fun h => ?_⟩, fun n m hn hm => ?_⟩
      · have := hb.2 (h y (by simp)); cases this
      obtain ⟨m, rfl⟩ := left hm
      have e1 : f n y = some true := e1 n (by omega)
      rw [a2o, a4w hd, cond_true, h1, Option.bind_some, e1]; rfl
    | false =>
      refine ⟨max N N1, r, hr.imp (fun h => ⟨h.1, by simpa using ⟨hb.1 rfl, h.2⟩⟩) (fun h => ⟨h.1, fun h5 => h.2 fun z hz => h5 z (by simp [hz])⟩), fun n m hn hm => ?_⟩
      obtain ⟨m, rfl, hm2⟩ := pred (by simpa using hm)
      have e1 : f n y = some false := e1 n (by omega)
      rw [a2o, a4w hd, cond_true, h1, Option.bind_some, e1, Option.bind_some, cond_false, inc64 (by omega)]
      exact ih n m (by omega) hm2
theorem b6r (l : List M.Expr) (hl : l.length ≤ 1000000) (f : Nat → M.Expr → Option Bool) (Q : M.Expr → Prop) (H : ∀ y, y ∈ l → Tt (fun b => b = false ↔ Q y) (fun n => f n y)) :
    Tt (fun b => b = false ↔ ∀ y, y ∈ l → Q y) (fun n => a1x n l (f n)) := by
  obtain ⟨N, r, hr, ih⟩ := b5u l hl f Q l 0 rfl H
  refine ⟨decide (0 ≤ r), ⟨N + l.length + 1, fun n hn => ?_⟩, ?_⟩
  · unfold a1x a3c
    dsimp only
    have e : a1n n l (f n) (some (-1)) n 0 = some r := ih n n (by omega) (by omega)
    rw [e]; rfl
  · show decide (0 ≤ r) = false ↔ _
    rw [decide_eq_false_iff_not]
    rcases hr with h | h
    · exact ⟨fun _ => h.2, fun _ => by omega⟩
    · exact ⟨fun h5 => absurd h.1 h5, fun h5 => absurd h5 h.2⟩
theorem Shx.inv {o n : Int} {s : Rt.Bs} {l : List M.Expr} (h : Shx ⟨o, n, s, l⟩) : 0 ≤ o ∧ o ≤ 16 ∧ (l.length : Int) = c1v o ∧ a8d o n s ∧ ∀ y, y ∈ l → Shx y := by
  cases h with
  | mk h1 h2 h3 h4 h5 => exact ⟨h1, h2, h3, h4, h5⟩
theorem c7w {x : M.Expr} (hx : Fit x) : Tt (fun b => b = true ↔ Shx x) (fun n => tariff_shaped n x) := by
  induction hx with
  | @mk o k s l hl _ ih =>
    refine Tt.suc (fun n => b2w n _) ?_
    refine Tt.bind (P := fun b => b = false ↔ 0 ≤ o ∧ o ≤ 16) (Tt.bif (fun h => Tt.pure ?_) (fun h => Tt.pure ?_)) ?_
    · have h1 := of_decide_eq_true h
      dsimp only at h1
      exact ⟨fun h => (by cases h), fun h => by omega⟩
    · have h1 := of_decide_eq_false h
      dsimp only at h1
      rw [decide_eq_false_iff_not]
      dsimp only
      omega
    intro b hb
    refine Tt.bind (P := fun c => c = false ↔ (0 ≤ o ∧ o ≤ 16) ∧ (l.length : Int) = c1v o) (Tt.bif (fun h => Tt.pure ?_) (fun h => ?_)) ?_
    · exact ⟨fun h => (by cases h), fun h5 => by have := hb.2 h5.1; rw [this] at h; cases h⟩
    · refine Tt.evb (Ev.all fun n => d1n n _) (Tt.pure ?_)
      have := hb.1 h
      simp only [bne_eq_false_iff_eq, this, true_and]
    intro c hc
    refine Tt.bif (fun h => Tt.pure ⟨fun h => (by cases h), fun h5 => ?_⟩) (fun h => ?_)
    · have h6 := h5.inv
      have := hc.2 ⟨⟨h6.1, h6.2.1⟩, h6.2.2.1⟩
      rw [this] at h; cases h
    obtain ⟨⟨h1, h2⟩, h3⟩ := hc.1 h
    have fin : ∀ {b : Bool}, (b = true ↔ a8d o k s ∧ ∀ y, y ∈ l → Shx y) → (b = true ↔ Shx ⟨o, k, s, l⟩) := fun {b} hb => hb.trans ⟨fun h => Shx.mk h1 h2 h3 h.1 h.2, fun h => ⟨h.inv.2.2.2.1, h.inv.2.2.2.2⟩⟩
    refine Tt.bif (fun h0 => ?_) (fun h0 => ?_)
    · have h0' : o = 0 := by simpa using h0
      subst h0'
      have hz : l = [] := by
        have : (l.length : Int) = 0 := h3
        exact List.length_eq_zero_iff.1 (by omega)
      subst hz
      refine Tt.bind (P := fun b => b = true ↔ 0 ≤ k ∧ k ≤ 1099511627776) (Tt.bif (fun h => Tt.pure ?_) (fun h => Tt.pure ?_)) fun b hb => ?_
      · have h5 := of_decide_eq_true h
        rw [decide_eq_true_iff]
        exact ⟨fun h6 => ⟨h5, h6⟩, fun h6 => h6.2⟩
      · have h5 := of_decide_eq_false h
        exact ⟨fun h6 => (by cases h6), fun h6 => absurd h6.1 h5⟩
      refine Tt.bind (P := fun b => b = true ↔ (0 ≤ k ∧ k ≤ 1099511627776) ∧ s = []) (Tt.bif (fun h => Tt.pure ?_) (fun h => Tt.pure ?_)) fun b hb2 => ?_
      · have := hb.1 h
        simp [this]
      · exact ⟨fun h6 => (by cases h6), fun h6 => by rw [hb.2 h6.1] at h; cases h⟩
      refine Tt.pure (fin ?_)
      rw [hb2]
      exact ⟨fun h => ⟨h, by simp⟩, fun h => h.1⟩
    have hn0 : o ≠ 0 := by simpa using h0
    refine Tt.bind (P := fun b => b = true ↔ o = 1 ∨ o = 4) (Tt.bif (fun h => Tt.pure ?_) (fun h => Tt.pure ?_)) ?_
    · have : o = 1 := by simpa using h
      exact ⟨fun _ => .inl this, fun _ => rfl⟩
    · have : o ≠ 1 := by simpa using h
      simp [this]
    intro b1 hb1
    refine Tt.bif (fun h4 => ?_) (fun h4 => ?_)
    · have ho := hb1.1 h4
      have hz : l = [] := by
        have : (l.length : Int) = 0 := by rw [h3]; rcases ho with rfl | rfl <;> rfl
        exact List.length_eq_zero_iff.1 (by omega)
      subst hz
      have hno : a8d o k s ↔ k = 0 ∧ Lx.name s = true := by unfold a8d; rw [if_neg hn0, if_pos ho]
      refine Tt.bind (P := fun b => b = true ↔ k = 0 ∧ Lx.name s = true) (Tt.bif (fun h => ?_) (fun h => Tt.pure ?_)) fun b hb => ?_
      · have : k = 0 := by simpa using h
        refine Tt.evb (c2h _) (Tt.pure ?_)
        simp [this]
      · have : k ≠ 0 := by simpa using h
        exact ⟨fun h => (by cases h), fun h => absurd h.1 this⟩
      refine Tt.pure (fin ?_)
      rw [hb, hno]
      exact ⟨fun h => ⟨h, by simp⟩, fun h => h.1⟩
    have ho : ¬(o = 1 ∨ o = 4) := fun h5 => by rw [hb1.2 h5] at h4; cases h4
    have hno : a8d o k s ↔ k = 0 ∧ s = [] := by unfold a8d; rw [if_neg hn0, if_neg ho]
    refine Tt.bind (P := fun b => b = true ↔ k = 0 ∧ s = []) (Tt.bif (fun h => Tt.pure ?_) (fun h => Tt.pure ?_)) fun b hb => ?_
    · have : k = 0 := by simpa using h
      simp [this]
    · have : k ≠ 0 := by simpa using h
      exact ⟨fun h => (by cases h), fun h => absurd h.1 this⟩
    refine Tt.bind (P := fun b => b = true ↔ a8d o k s ∧ ∀ y, y ∈ l → Shx y) (Tt.bif (fun h => ?_) (fun h => Tt.pure ?_)) ?_
    · refine Tt.bind (b6r l hl tariff_shaped_1 Shx (fun y hy => ?_)) ?_
      · refine Tt.suc (fun n => b1c n _) ?_
        refine Tt.bind (ih y hy) ?_
        intro b hb
        refine Tt.pure ?_
        rw [← hb]; cases b <;> simp
      · intro b2 hb2
        refine Tt.pure ?_
        rw [hno, ← hb, ← hb2, h]
        cases b2 <;> simp
    · exact ⟨fun h5 => (by cases h5), fun h5 => by rw [hno, ← hb] at h5; rw [h5.1] at h; cases h⟩
    · intro b hb
      exact Tt.pure (fin hb)
def Frm (x : M.Expr) : Prop := (dep x ≤ 10 ∧ cnt x ≤ 100) ∧ Shx x
theorem c8m {x : M.Expr} (hx : Fit x) : Tt (fun b => b = true ↔ Frm x) (fun n => a8w n x) := by
  unfold a8w
  refine Tt.bind (c9l hx 10 100 (by decide) (by decide)) fun r hr => ?_
  have h5 : r.2 = true ↔ dep x ≤ 10 ∧ cnt x ≤ 100 := ⟨fun h => ⟨(hr.1 h).1, (hr.1 h).2.1⟩, fun h => hr.2 h.1 h.2⟩
  refine Tt.bind (P := fun b => b = true ↔ Frm x) (Tt.bif (fun h => ?_) (fun h => Tt.pure ?_)) fun b hb => Tt.pure hb
  · refine Tt.bind (c7w hx) fun b hb => Tt.pure ?_
    unfold Frm
    rw [hb, ← h5, h]; simp
  · exact ⟨fun h6 => (by cases h6), fun h6 => by rw [h5.2 h6.1] at h; cases h⟩
def Wrt (t : Tariff) : Prop := Lx.name t.Name = true ∧ Frm t.Fee ∧ -1 ≤ t.Cap ∧ t.Cap ≤ 1099511627776
theorem c3z {t : Tariff} (hx : Fit t.Fee) : Tt (fun b => b = true ↔ Wrt t) (fun n => a6p n t) := by
  unfold a6p
  refine Tt.evb (c2h _) ?_
  refine Tt.bind (P := fun b => b = true ↔ Lx.name t.Name = true ∧ Frm t.Fee) (Tt.bif (fun h => ?_) (fun h => Tt.pure ?_)) fun b hb => ?_
  · refine Tt.bind (c8m hx) fun b hb => Tt.pure ?_
    rw [hb, h]; simp
  · exact ⟨fun h6 => (by cases h6), fun h6 => by rw [h6.1] at h; cases h⟩
  refine Tt.bind (P := fun b => b = true ↔ (Lx.name t.Name = true ∧ Frm t.Fee) ∧ -1 ≤ t.Cap) (Tt.bif (fun h => Tt.pure ?_) (fun h => Tt.pure ?_)) fun b hb => ?_
  · rw [decide_eq_true_iff, ← hb, h]; simp
  · exact ⟨fun h6 => (by cases h6), fun h6 => by rw [hb.2 h6.1] at h; cases h⟩
  refine Tt.bind (P := fun b => b = true ↔ Wrt t) (Tt.bif (fun h => Tt.pure ?_) (fun h => Tt.pure ?_)) fun b hb => ?_
  · have := hb.1 h
    rw [decide_eq_true_iff]
    exact ⟨fun h5 => ⟨this.1.1, this.1.2, this.2, h5⟩, fun h5 => h5.2.2.2⟩
  · exact ⟨fun h6 => (by cases h6), fun h6 => by rw [hb.2 ⟨⟨h6.1, h6.2.1⟩, h6.2.2.1⟩] at h; cases h⟩
  exact Tt.pure hb
end Go.Proofs.YtknpjecpcmajiaaGreat.Tp

namespace Go.Proofs.YtknpjecpcmajiaaGreat.Tp
open Go Rt M Ta
def wd (a b : Int) : Int := bif a == 2 || b == 2 then 2 else 1
theorem c9b (a b : Int) : wd a b ≠ 0 := by
  unfold wd
  cases a == 2 || b == 2 <;> decide
inductive Typ (names : List Rt.Bs) : M.Expr → Int → Prop
  | num {m : Int} : 0 ≤ m → m ≤ 1099511627776 → Typ names ⟨0, m, [], []⟩ 1
  | lifts {s : Rt.Bs} : Lx.name s = true → s ∈ names → Typ names ⟨1, 0, s, []⟩ 1
  | pers : Typ names ⟨2, 0, [], []⟩ 1
  | flats : Typ names ⟨3, 0, [], []⟩ 1
  | wgt {s : Rt.Bs} : Lx.name s = true → s ∈ names → Typ names ⟨4, 0, s, []⟩ 2
  | ari {o : Int} {a b : M.Expr} {p q : Int} : (o = 5 ∨ o = 6 ∨ o = 9 ∨ o = 10) → Typ names a p → Typ names b q → p ≠ 0 → q ≠ 0 → Typ names ⟨o, 0, [], [a, b]⟩ (wd p q)
  | mul {a b : M.Expr} {p q : Int} : Typ names a p → Typ names b q → p ≠ 0 → q ≠ 0 → ¬(p = 2 ∧ q = 2) → Typ names ⟨7, 0, [], [a, b]⟩ (wd p q)
  | div {a : M.Expr} {m : Int} {p : Int} : Typ names a p → p ≠ 0 → 1 ≤ m → m ≤ 1099511627776 → Typ names ⟨8, 0, [], [a, ⟨0, m, [], []⟩]⟩ p
  | ite {c a b : M.Expr} {p q : Int} : Typ names c 0 → Typ names a p → Typ names b q → p ≠ 0 → q ≠ 0 → Typ names ⟨11, 0, [], [c, a, b]⟩ (wd p q)
  | rel {o : Int} {a b : M.Expr} : (o = 12 ∨ o = 13) → Typ names a 1 → Typ names b 1 → Typ names ⟨o, 0, [], [a, b]⟩ 0
  | not {a : M.Expr} : Typ names a 0 → Typ names ⟨14, 0, [], [a]⟩ 0
  | bin {o : Int} {a b : M.Expr} : (o = 15 ∨ o = 16) → Typ names a 0 → Typ names b 0 → Typ names ⟨o, 0, [], [a, b]⟩ 0
theorem b9w (a b : Int) : wd a b = 1 ∨ wd a b = 2 := by
  unfold wd
  cases a == 2 || b == 2
  · exact .inl rfl
  · exact .inr rfl
theorem Typ.range {names : List Rt.Bs} {x : M.Expr} {k : Int} (h : Typ names x k) : k = 0 ∨ k = 1 ∨ k = 2 := by
  induction h with
  | num => exact .inr (.inl rfl)
  | lifts => exact .inr (.inl rfl)
  | pers => exact .inr (.inl rfl)
  | flats => exact .inr (.inl rfl)
  | wgt => exact .inr (.inr rfl)
  | ari => exact .inr (b9w _ _)
  | mul => exact .inr (b9w _ _)
  | div _ _ _ _ ih => exact ih
  | ite => exact .inr (b9w _ _)
  | rel => exact .inl rfl
  | not => exact .inl rfl
  | bin => exact .inl rfl
theorem Typ.args {names : List Rt.Bs} {x : M.Expr} {k : Int} (h : Typ names x k) : ∀ y, y ∈ x.Args → ∃ p, Typ names y p := by
  cases h with
  | num => intro y hy; cases hy
  | lifts => intro y hy; cases hy
  | pers => intro y hy; cases hy
  | flats => intro y hy; cases hy
  | wgt => intro y hy; cases hy
  | ari _ ha hb => intro y hy; simp only [List.mem_cons, List.not_mem_nil, or_false] at hy; rcases hy with rfl | rfl <;> first | exact ⟨_, ha⟩ | exact ⟨_, hb⟩
  | mul ha hb => intro y hy; simp only [List.mem_cons, List.not_mem_nil, or_false] at hy; rcases hy with rfl | rfl <;> first | exact ⟨_, ha⟩ | exact ⟨_, hb⟩
  | div ha _ h1 h2 => intro y hy; simp only [List.mem_cons, List.not_mem_nil, or_false] at hy; rcases hy with rfl | rfl <;> first | exact ⟨_, ha⟩ | exact ⟨_, Typ.num (by omega) h2⟩
  | ite hc ha hb => intro y hy; simp only [List.mem_cons, List.not_mem_nil, or_false] at hy; rcases hy with rfl | rfl | rfl <;> first | exact ⟨_, hc⟩ | exact ⟨_, ha⟩ | exact ⟨_, hb⟩
  | rel _ ha hb => intro y hy; simp only [List.mem_cons, List.not_mem_nil, or_false] at hy; rcases hy with rfl | rfl <;> first | exact ⟨_, ha⟩ | exact ⟨_, hb⟩
  | not ha => intro y hy; simp only [List.mem_cons, List.not_mem_nil, or_false] at hy; rcases hy with rfl; exact ⟨_, ha⟩
  | bin _ ha hb => intro y hy; simp only [List.mem_cons, List.not_mem_nil, or_false] at hy; rcases hy with rfl | rfl <;> first | exact ⟨_, ha⟩ | exact ⟨_, hb⟩
theorem Typ.shx {names : List Rt.Bs} {x : M.Expr} {k : Int} (h : Typ names x k) : Shx x := by
  have nk : ∀ {o : Int}, 5 ≤ o → a8d o 0 [] := fun {o} ho => by unfold a8d; rw [if_neg (by omega), if_neg (by omega)]; exact ⟨rfl, rfl⟩
  have two : ∀ {o : Int} {a b : M.Expr}, (5 ≤ o ∧ o ≤ 16 ∧ o ≠ 11 ∧ o ≠ 14) → Shx a → Shx b → Shx ⟨o, 0, [], [a, b]⟩ := fun {o a b} ho ha hb => by
    refine Shx.mk (by omega) (by omega) ?_ (nk ho.1) ?_
    · show (2 : Int) = _
      unfold c1v; rw [if_neg (by omega), if_neg (by omega), if_neg (by omega)]
    · intro y hy; simp only [List.mem_cons, List.not_mem_nil, or_false] at hy; rcases hy with rfl | rfl <;> first | exact ha | exact hb
  have nn : ∀ {m : Int}, 0 ≤ m → m ≤ 1099511627776 → Shx ⟨0, m, [], []⟩ := fun {m} h1 h2 => Shx.mk (by decide) (by decide) rfl (by unfold a8d; rw [if_pos rfl]; exact ⟨⟨h1, h2⟩, rfl⟩) (by intro y hy; cases hy)
  induction h with
  | num h1 h2 => exact nn h1 h2
  | lifts h1 _ => exact Shx.mk (by decide) (by decide) rfl (by unfold a8d; rw [if_neg (by decide), if_pos (by decide)]; exact ⟨rfl, h1⟩) (by intro y hy; cases hy)
  | pers => exact Shx.mk (by decide) (by decide) rfl (by unfold a8d; rw [if_neg (by decide), if_neg (by decide)]; exact ⟨rfl, rfl⟩) (by intro y hy; cases hy)
  | flats => exact Shx.mk (by decide) (by decide) rfl (by unfold a8d; rw [if_neg (by decide), if_neg (by decide)]; exact ⟨rfl, rfl⟩) (by intro y hy; cases hy)
  | wgt h1 _ => exact Shx.mk (by decide) (by decide) rfl (by unfold a8d; rw [if_neg (by decide), if_pos (by decide)]; exact ⟨rfl, h1⟩) (by intro y hy; cases hy)
  | ari ho _ _ _ _ ha hb => exact two (by omega) ha hb
  | mul _ _ _ _ _ ha hb => exact two (by decide) ha hb
  | div _ _ h1 h2 ha => exact two (by decide) ha (nn (by omega) h2)
  | ite _ _ _ _ _ hc ha hb =>
    refine Shx.mk (by decide) (by decide) rfl (nk (by decide)) ?_
    intro y hy; simp only [List.mem_cons, List.not_mem_nil, or_false] at hy; rcases hy with rfl | rfl | rfl <;> first | exact hc | exact ha | exact hb
  | rel ho _ _ ha hb => exact two (by omega) ha hb
  | not _ ha =>
    refine Shx.mk (by decide) (by decide) rfl (nk (by decide)) ?_
    intro y hy; simp only [List.mem_cons, List.not_mem_nil, or_false] at hy; rcases hy with rfl; exact ha
  | bin ho _ _ ha hb => exact two (by omega) ha hb
theorem d2e (n : Nat) (a b : Int) : a2h n a b = some (bif a == 0 || b == 0 then (0, 13) else (wd a b, 0)) := by
  unfold a2h wd
  have orT : ∀ c d : Bool, (bif c then some true else some d) = some (c || d) := fun c d => by cases c <;> rfl
  rw [orT, Option.bind_some, orT, Option.bind_some]
  cases a == 0 || b == 0 <;> cases a == 2 || b == 2 <;> rfl
theorem d1o (k p q w : Int) : Ev (fun n => a4k n k [p, q] w) (bif p == w && q == w then (k, 0) else (0, 13)) := by
  refine ⟨3, fun n hn => ?_⟩
  obtain ⟨n, rfl⟩ : ∃ j, n = j + 3 := ⟨n - 3, by omega⟩
  show ((bif p != w then some (0 : Int) else bif q != w then some 1 else some (-1)).bind fun v1 => some (decide (0 ≤ v1))).bind (fun v1 => bif v1 then some ((0 : Int), (13 : Int)) else some (k, 0)) = _
  cases hp : p == w <;> cases hq : q == w <;> simp [bne, hp, hq]
theorem d1b (k p w : Int) : Ev (fun n => a4k n k [p] w) (bif p == w then (k, 0) else (0, 13)) := by
  refine ⟨3, fun n hn => ?_⟩
  obtain ⟨n, rfl⟩ : ∃ j, n = j + 3 := ⟨n - 3, by omega⟩
  show ((bif p != w then some (0 : Int) else some (-1)).bind fun v1 => some (decide (0 ≤ v1))).bind (fun v1 => bif v1 then some ((0 : Int), (13 : Int)) else some (k, 0)) = _
  cases hp : p == w <;> simp [bne, hp]
def Fnd (names : List Rt.Bs) (x : M.Expr) (r : Int × Int) : Prop := (r.2 = 0 → Typ names x r.1) ∧ (∀ k, Typ names x k → r = (k, 0))
theorem Fnd.uniq {names : List Rt.Bs} {x : M.Expr} {p k : Int} (h : Fnd names x (p, 0)) (hk : Typ names x k) : k = p := by
  have := h.2 k hk
  exact (Prod.mk.inj this).1.symm
inductive F2 (names : List Rt.Bs) : List M.Expr → List Int → Prop
  | nil : F2 names [] []
  | cons {x : M.Expr} {p : Int} {l : List M.Expr} {ps : List Int} : Fnd names x (p, 0) → F2 names l ps → F2 names (x :: l) (p :: ps)
theorem c2l (x : M.Expr) (names : List Rt.Bs) (hx : x.Args.length ≤ 1000000) : ∀ (us : List M.Expr) (i : Nat) (acc : List Int), x.Args.drop i = us → acc.length = i → i ≤ x.Args.length →
    (∀ y, y ∈ us → Tt (Fnd names y) (fun n => tariff_typed n y names)) →
    (∃ (N : Nat) (e : Int), e ≠ 0 ∧ (∃ y, y ∈ us ∧ ∀ k, ¬Typ names y k) ∧ ∀ n m kont, N ≤ n → us.length < m → a3b n (tariff_typed n) x names kont m (i : Int) acc = some (0, e)) ∨
    ∃ (N : Nat) (ps : List Int), F2 names us ps ∧ ∀ n m kont, N ≤ n → us.length < m → a3b n (tariff_typed n) x names kont m (i : Int) acc = kont (acc ++ ps)
  | [], i, acc, hd, ha, hi, _ => by
    refine .inr ⟨0, [], F2.nil, fun n m kont _ hm => ?_⟩
    obtain ⟨m, rfl⟩ := left hm
    rw [a7d, a9t hd, List.append_nil]; rfl
  | y :: us, i, acc, hd, ha, hi, H => by
    obtain ⟨h1, h2, h3⟩ := drop_cons hd
    obtain ⟨⟨k, e⟩, ⟨N1, e1⟩, hq⟩ := H y (by simp)
    by_cases he : e = 0
    · subst he
      have step : ∀ n m kont, N1 ≤ n → a3b n (tariff_typed n) x names kont (m + 1) (i : Int) acc = a3b n (tariff_typed n) x names kont m ((i + 1 : Nat) : Int) (acc ++ [k]) := by
        intro n m kont hn
        have e1 : tariff_typed n y names = some (k, 0) := e1 n (by omega)
        rw [a7d, a4w hd, cond_true, h1, Option.bind_some, e1, Option.bind_some]
        show ((app 8 acc [k]).bind fun l3 => _) = _
        rw [c8r (by simp only [List.length_cons, List.length_nil]; omega), Option.bind_some, inc64 (by omega)]
      rcases c2l x names hx us (i + 1) (acc ++ [k]) h2 (by simp [ha]) (by omega) (fun z hz => H z (by simp [hz])) with ⟨N, e, he, ⟨z, hz, hzk⟩, ih⟩ | ⟨N, ps, hp, ih⟩
      · refine .inl ⟨max N N1, e, he, ⟨z, by simp [hz], hzk⟩, fun n m kont hn hm => ?_⟩
        obtain ⟨m, rfl, hm2⟩ := pred (by simpa using hm)
        rw [step n m kont (by omega)]
        exact ih n m kont (by omega) hm2
      · refine .inr ⟨max N N1, k :: ps, F2.cons hq hp, fun n m kont hn hm => ?_⟩
        obtain ⟨m, rfl, hm2⟩ := pred (by simpa using hm)
        rw [step n m kont (by omega), ih n m kont (by omega) hm2, List.append_assoc]; rfl
    · refine .inl ⟨N1, e, he, ⟨y, by simp, fun k' hk => he (Prod.mk.inj (hq.2 k' hk)).2⟩, fun n m kont hn hm => ?_⟩
      obtain ⟨m, rfl⟩ := left hm
      have e1 : tariff_typed n y names = some (k, e) := e1 n (by omega)
      have hb : (e != 0) = true := by simpa using he
      rw [a7d, a4w hd, cond_true, h1, Option.bind_some, e1, Option.bind_some]
      dsimp only
      rw [hb]; rfl
def d1t (names : List Rt.Bs) (x : M.Expr) (n : Nat) (l2 : List Int) : Option (Int × Int) :=
   (bif x.Op == 1 then
    some true
   else
    some (x.Op == 4)).bind fun v1 =>
   bif v1 then
    (a1m n names x.Name).bind fun v2 =>
    bif !v2 then
     some (0, 11)
    else
     bif x.Op == 4 then
      some (2, 0)
     else
      some (1, 0)
   else
    (bif x.Op == 0 then
     some true
    else
     bif x.Op == 2 then
      some true
     else
      some (x.Op == 3)).bind fun v3 =>
    bif v3 then
     some (1, 0)
    else
     (bif x.Op == 12 then
      some true
     else
      some (x.Op == 13)).bind fun v4 =>
     bif v4 then
      (a4k n 0 l2 1).bind fun v5 =>
      some (v5.1, v5.2)
     else
      (bif x.Op == 14 then
       some true
      else
       bif x.Op == 15 then
        some true
       else
        some (x.Op == 16)).bind fun v6 =>
      bif v6 then
       (a4k n 0 l2 0).bind fun v7 =>
       some (v7.1, v7.2)
      else
       bif x.Op == 11 then
        (ix l2 0).bind fun ex =>
        bif ex != 0 then
         some (0, 13)
        else
         (ix l2 1).bind fun w2 =>
         (ix l2 2).bind fun w3 =>
         (a2h n w2 w3).bind fun v8 =>
         some (v8.1, v8.2)
       else
        bif x.Op == 7 then
         (ix l2 0).bind fun w4 =>
         (bif w4 == 2 then
          (ix l2 1).bind fun w7 =>
          some (w7 == 2)
         else
          some false).bind fun v9 =>
         bif v9 then
          some (0, 13)
         else
          (ix l2 0).bind fun w5 =>
          (ix l2 1).bind fun w6 =>
          (a2h n w5 w6).bind fun v10 =>
          some (v10.1, v10.2)
        else
         bif x.Op == 8 then
          (ix x.Args 1).bind fun w8 =>
          bif w8.Op != 0 then
           some (0, 13)
          else
           bif w8.N == 0 then
            some (0, 14)
           else
            (ix l2 0).bind fun w9 =>
            (ix l2 1).bind fun w0 =>
            (a2h n w9 w0).bind fun v11 =>
            some (v11.1, v11.2)
         else
          (ix l2 0).bind fun w1 =>
          (ix l2 1).bind fun w2 =>
          (a2h n w1 w2).bind fun v12 =>
          some (v12.1, v12.2)
theorem c4j (n : Nat) (x : M.Expr) (names : List Rt.Bs) : tariff_typed (n + 1) x names = a3b n (tariff_typed n) x names (d1t names x n) n 0 [] := rfl
def b6b (p q : Int) : Int × Int := bif p == 0 || q == 0 then (0, 13) else (wd p q, 0)
theorem b1x (p q : Int) : Ev (fun n => (a2h n p q).bind fun v => some (v.1, v.2)) (b6b p q) := Ev.all fun n => by rw [d2e]; rfl
theorem c7q (p q w : Int) : Ev (fun n => (a4k n 0 [p, q] w).bind fun v5 => some (v5.1, v5.2)) (bif p == w && q == w then (0, 0) else (0, 13)) := Ev.bind (d1o 0 p q w) (Ev.pure _)
theorem d2s (p w : Int) : Ev (fun n => (a4k n 0 [p] w).bind fun v5 => some (v5.1, v5.2)) (bif p == w then (0, 0) else (0, 13)) := Ev.bind (d1b 0 p w) (Ev.pure _)
theorem b1r (p q : Int) : ((p ≠ 0 ∧ q ≠ 0) ∧ b6b p q = (wd p q, 0)) ∨ ((p = 0 ∨ q = 0) ∧ b6b p q = (0, 13)) := by
  unfold b6b
  by_cases hp : p = 0
  · subst hp; exact .inr ⟨.inl rfl, rfl⟩
  · by_cases hq : q = 0
    · subst hq; exact .inr ⟨.inr rfl, by rw [show ((0 : Int) == 0) = true from rfl, Bool.or_true]; rfl⟩
    · exact .inl ⟨⟨hp, hq⟩, by rw [show (p == 0) = false by simpa using hp, show (q == 0) = false by simpa using hq]; rfl⟩
theorem Fnd.no {names : List Rt.Bs} {x : M.Expr} {p e : Int} (he : e ≠ 0) (h : ∀ k, ¬Typ names x k) : Fnd names x (p, e) := ⟨fun h2 => absurd h2 he, fun k hk => absurd hk (h k)⟩
theorem Fnd.yes {names : List Rt.Bs} {x : M.Expr} {p : Int} (h : Typ names x p) (hu : ∀ k, Typ names x k → k = p) : Fnd names x (p, 0) := ⟨fun _ => h, fun k hk => by rw [hu k hk]⟩
theorem F2.len0 {names : List Rt.Bs} {l : List M.Expr} {ps : List Int} (h : F2 names l ps) (h0 : (l.length : Int) = 0) : l = [] ∧ ps = [] := by
  cases h with
  | nil => exact ⟨rfl, rfl⟩
  | cons => simp at h0; omega
theorem F2.len1 {names : List Rt.Bs} {l : List M.Expr} {ps : List Int} (h : F2 names l ps) (h0 : (l.length : Int) = 1) : ∃ a p, l = [a] ∧ ps = [p] ∧ Fnd names a (p, 0) := by
  cases h with
  | nil => simp at h0
  | cons ha h =>
    obtain ⟨rfl, rfl⟩ := h.len0 (by simp only [List.length_cons] at h0; omega)
    exact ⟨_, _, rfl, rfl, ha⟩
theorem F2.len2 {names : List Rt.Bs} {l : List M.Expr} {ps : List Int} (h : F2 names l ps) (h0 : (l.length : Int) = 2) : ∃ a b p q, l = [a, b] ∧ ps = [p, q] ∧ Fnd names a (p, 0) ∧ Fnd names b (q, 0) := by
  cases h with
  | nil => simp at h0
  | cons ha h =>
    obtain ⟨b, q, rfl, rfl, hb⟩ := h.len1 (by simp only [List.length_cons] at h0; omega)
    exact ⟨_, b, _, q, rfl, rfl, ha, hb⟩
theorem F2.len3 {names : List Rt.Bs} {l : List M.Expr} {ps : List Int} (h : F2 names l ps) (h0 : (l.length : Int) = 3) : ∃ a b c p q r, l = [a, b, c] ∧ ps = [p, q, r] ∧ Fnd names a (p, 0) ∧ Fnd names b (q, 0) ∧ Fnd names c (r, 0) := by
  cases h with
  | nil => simp at h0
  | cons ha h =>
    obtain ⟨b, c, q, r, rfl, rfl, hb, hc⟩ := h.len2 (by simp only [List.length_cons] at h0; omega)
    exact ⟨_, b, c, _, q, r, rfl, rfl, ha, hb, hc⟩
theorem Shx.leaf {m : Int} {s : Rt.Bs} {l : List M.Expr} (h : Shx ⟨0, m, s, l⟩) : (0 ≤ m ∧ m ≤ 1099511627776) ∧ s = [] ∧ l = [] := by
  obtain ⟨_, _, h3, h4, _⟩ := h.inv
  unfold a8d at h4
  rw [if_pos rfl] at h4
  refine ⟨h4.1, h4.2, List.length_eq_zero_iff.1 ?_⟩
  have : (l.length : Int) = 0 := h3
  omega
theorem b9j {names : List Rt.Bs} {o : Int} {a b : M.Expr} {p q : Int} (ho : o = 5 ∨ o = 6 ∨ o = 9 ∨ o = 10) (ha : Fnd names a (p, 0)) (hb : Fnd names b (q, 0)) : Fnd names ⟨o, 0, [], [a, b]⟩ (b6b p q) := by
  have inv : ∀ k, Typ names ⟨o, 0, [], [a, b]⟩ k → (p ≠ 0 ∧ q ≠ 0) ∧ k = wd p q := by
    intro k hk
    cases hk with
    | ari _ h1 h2 h3 h4 => obtain rfl := ha.uniq h1; obtain rfl := hb.uniq h2; exact ⟨⟨h3, h4⟩, rfl⟩
    | mul => omega
    | div => omega
    | rel h => omega
    | bin h => omega
  rcases b1r p q with ⟨h, e⟩ | ⟨h, e⟩
  · rw [e]; exact Fnd.yes (Typ.ari ho (ha.1 rfl) (hb.1 rfl) h.1 h.2) fun k hk => (inv k hk).2
  · rw [e]; exact Fnd.no (by decide) fun k hk => by have := (inv k hk).1; omega
theorem c9k {names : List Rt.Bs} {a b : M.Expr} {p q : Int} (ha : Fnd names a (p, 0)) (hb : Fnd names b (q, 0)) : Fnd names ⟨7, 0, [], [a, b]⟩ (bif p == 2 && q == 2 then (0, 13) else b6b p q) := by
  have inv : ∀ k, Typ names ⟨7, 0, [], [a, b]⟩ k → ((p ≠ 0 ∧ q ≠ 0) ∧ ¬(p = 2 ∧ q = 2)) ∧ k = wd p q := by
    intro k hk
    cases hk with
    | ari h => omega
    | mul h1 h2 h3 h4 h5 => obtain rfl := ha.uniq h1; obtain rfl := hb.uniq h2; exact ⟨⟨⟨h3, h4⟩, h5⟩, rfl⟩
    | rel h => omega
    | bin h => omega
  by_cases h2 : p = 2 ∧ q = 2
  · rw [h2.1, h2.2]; exact Fnd.no (by decide) fun k hk => (inv k hk).1.2 h2
  · have e2 : (p == 2 && q == 2) = false := by
      cases h : p == 2 && q == 2
      · rfl
      · rw [Bool.and_eq_true] at h; exact absurd ⟨by simpa using h.1, by simpa using h.2⟩ h2
    rw [e2]
    show Fnd names _ (b6b p q)
    rcases b1r p q with ⟨h, e⟩ | ⟨h, e⟩
    · rw [e]; exact Fnd.yes (Typ.mul (ha.1 rfl) (hb.1 rfl) h.1 h.2 h2) fun k hk => (inv k hk).2
    · rw [e]; exact Fnd.no (by decide) fun k hk => by have := (inv k hk).1.1; omega
theorem d2a {names : List Rt.Bs} {a : M.Expr} {p : Int} (h : Typ names a p) (h0 : p ≠ 0) : wd p 1 = p := by
  rcases h.range with rfl | rfl | rfl
  · exact absurd rfl h0
  · rfl
  · rfl
theorem d0l {names : List Rt.Bs} {a b : M.Expr} {p q : Int} (ha : Fnd names a (p, 0)) (hb : Fnd names b (q, 0)) (hs : Shx b) : Fnd names ⟨8, 0, [], [a, b]⟩ (bif b.Op != 0 then (0, 13) else bif b.N == 0 then (0, 14) else b6b p q) := by
  have inv : ∀ k, Typ names ⟨8, 0, [], [a, b]⟩ k → ∃ m, b = ⟨0, m, [], []⟩ ∧ m ≠ 0 ∧ p ≠ 0 ∧ k = p := by
    intro k hk
    cases hk with
    | ari h => omega
    | div h1 h2 h3 h4 => obtain rfl := ha.uniq h1; exact ⟨_, rfl, by omega, h2, rfl⟩
    | rel h => omega
    | bin h => omega
  obtain ⟨o, m, s, l⟩ := b
  dsimp only
  by_cases h0 : o = 0
  · subst h0
    obtain ⟨h1, rfl, rfl⟩ := hs.leaf
    have hq : q = 1 := (hb.uniq (Typ.num h1.1 h1.2)).symm
    subst hq
    show Fnd names _ (bif m == 0 then (0, 14) else b6b p 1)
    by_cases hm : m = 0
    · subst hm
      exact Fnd.no (by decide) fun k hk => by
        obtain ⟨m2, h5, h6, _⟩ := inv k hk
        injection h5 with _ h7
        exact h6 h7.symm
    · rw [show (m == 0) = false by simpa using hm]
      show Fnd names _ (b6b p 1)
      rcases b1r p 1 with ⟨h, e⟩ | ⟨h, e⟩
      · rw [e, d2a (ha.1 rfl) h.1]; exact Fnd.yes (Typ.div (ha.1 rfl) h.1 (by omega) h1.2) fun k hk => by obtain ⟨_, _, _, _, h⟩ := inv k hk; exact h
      · rw [e]; exact Fnd.no (by decide) fun k hk => by obtain ⟨_, _, _, h5, _⟩ := inv k hk; omega
  · rw [show (o != 0) = true by simpa using h0]
    exact Fnd.no (by decide) fun k hk => by
      obtain ⟨m2, h5, _⟩ := inv k hk
      injection h5 with h7
      exact h0 h7
theorem d0f {names : List Rt.Bs} {c a b : M.Expr} {r p q : Int} (hc : Fnd names c (r, 0)) (ha : Fnd names a (p, 0)) (hb : Fnd names b (q, 0)) : Fnd names ⟨11, 0, [], [c, a, b]⟩ (bif r != 0 then (0, 13) else b6b p q) := by
  have inv : ∀ k, Typ names ⟨11, 0, [], [c, a, b]⟩ k → (r = 0 ∧ p ≠ 0 ∧ q ≠ 0) ∧ k = wd p q := by
    intro k hk
    cases hk with
    | ite h0 h1 h2 h3 h4 => obtain rfl := hc.uniq h0; obtain rfl := ha.uniq h1; obtain rfl := hb.uniq h2; exact ⟨⟨rfl, h3, h4⟩, rfl⟩
  by_cases hr : r = 0
  · subst hr
    show Fnd names _ (b6b p q)
    rcases b1r p q with ⟨h, e⟩ | ⟨h, e⟩
    · rw [e]; exact Fnd.yes (Typ.ite (hc.1 rfl) (ha.1 rfl) (hb.1 rfl) h.1 h.2) fun k hk => (inv k hk).2
    · rw [e]; exact Fnd.no (by decide) fun k hk => by have := (inv k hk).1; omega
  · rw [show (r != 0) = true by simpa using hr]
    exact Fnd.no (by decide) fun k hk => hr (inv k hk).1.1
theorem c5h {names : List Rt.Bs} {o : Int} {a b : M.Expr} {p q : Int} (ho : o = 12 ∨ o = 13) (ha : Fnd names a (p, 0)) (hb : Fnd names b (q, 0)) : Fnd names ⟨o, 0, [], [a, b]⟩ (bif p == 1 && q == 1 then (0, 0) else (0, 13)) := by
  have inv : ∀ k, Typ names ⟨o, 0, [], [a, b]⟩ k → (p = 1 ∧ q = 1) ∧ k = 0 := by
    intro k hk
    cases hk with
    | ari h => omega
    | mul => omega
    | div => omega
    | rel _ h1 h2 => exact ⟨⟨(ha.uniq h1).symm, (hb.uniq h2).symm⟩, rfl⟩
    | bin h => omega
  by_cases h2 : p = 1 ∧ q = 1
  · obtain ⟨rfl, rfl⟩ := h2; exact Fnd.yes (Typ.rel ho (ha.1 rfl) (hb.1 rfl)) fun k hk => (inv k hk).2
  · have e2 : (p == 1 && q == 1) = false := by
      cases h : p == 1 && q == 1
      · rfl
      · rw [Bool.and_eq_true] at h; exact absurd ⟨by simpa using h.1, by simpa using h.2⟩ h2
    rw [e2]; exact Fnd.no (by decide) fun k hk => h2 (inv k hk).1
theorem c5c {names : List Rt.Bs} {o : Int} {a b : M.Expr} {p q : Int} (ho : o = 15 ∨ o = 16) (ha : Fnd names a (p, 0)) (hb : Fnd names b (q, 0)) : Fnd names ⟨o, 0, [], [a, b]⟩ (bif p == 0 && q == 0 then (0, 0) else (0, 13)) := by
  have inv : ∀ k, Typ names ⟨o, 0, [], [a, b]⟩ k → (p = 0 ∧ q = 0) ∧ k = 0 := by
    intro k hk
    cases hk with
    | ari h => omega
    | mul => omega
    | div => omega
    | rel h => omega
    | bin _ h1 h2 => exact ⟨⟨(ha.uniq h1).symm, (hb.uniq h2).symm⟩, rfl⟩
  by_cases h2 : p = 0 ∧ q = 0
  · obtain ⟨rfl, rfl⟩ := h2; exact Fnd.yes (Typ.bin ho (ha.1 rfl) (hb.1 rfl)) fun k hk => (inv k hk).2
  · have e2 : (p == 0 && q == 0) = false := by
      cases h : p == 0 && q == 0
      · rfl
      · rw [Bool.and_eq_true] at h; exact absurd ⟨by simpa using h.1, by simpa using h.2⟩ h2
    rw [e2]; exact Fnd.no (by decide) fun k hk => h2 (inv k hk).1
theorem d0i {names : List Rt.Bs} {a : M.Expr} {p : Int} (ha : Fnd names a (p, 0)) : Fnd names ⟨14, 0, [], [a]⟩ (bif p == 0 then (0, 0) else (0, 13)) := by
  have inv : ∀ k, Typ names ⟨14, 0, [], [a]⟩ k → p = 0 ∧ k = 0 := by
    intro k hk
    cases hk with
    | not h1 => exact ⟨(ha.uniq h1).symm, rfl⟩
  by_cases h2 : p = 0
  · subst h2; exact Fnd.yes (Typ.not (ha.1 rfl)) fun k hk => (inv k hk).2
  · rw [show (p == 0) = false by simpa using h2]; exact Fnd.no (by decide) fun k hk => h2 (inv k hk).1
theorem a5k {o n : Int} {s : Rt.Bs} (h : a8d o n s) (h5 : o ≠ 0 ∧ o ≠ 1 ∧ o ≠ 4) : n = 0 ∧ s = [] := by
  unfold a8d at h
  rw [if_neg h5.1, if_neg (by omega)] at h
  exact h
theorem c1n {x : M.Expr} (hx : Fit x) (names : List Rt.Bs) (hn : names.length < 4611686018427387904) : Shx x → Tt (Fnd names x) (fun n => tariff_typed n x names) := by
  induction hx with
  | @mk o k s l hl _ ih =>
    intro hs
    obtain ⟨h1, h2, h3, hno, h4⟩ := hs.inv
    rcases c2l ⟨o, k, s, l⟩ names hl l 0 [] rfl rfl (by simp) (fun y hy => ih y hy (h4 y hy)) with ⟨N, e, he, ⟨y, hy, hyk⟩, hL⟩ | ⟨N, ps, hp, hL⟩
    · refine ⟨(0, e), Ev.suc (fun n => c4j n _ _) ⟨N + l.length + 1, fun n hn => hL n n _ (by omega) (by omega)⟩, Fnd.no he fun k' hk => ?_⟩
      obtain ⟨p, hp⟩ := hk.args y hy
      exact hyk p hp
    have out : ∀ r : Int × Int, Fnd names ⟨o, k, s, l⟩ r → Ev (fun n => d1t names ⟨o, k, s, l⟩ n ps) r → Tt (Fnd names ⟨o, k, s, l⟩) (fun n => tariff_typed n ⟨o, k, s, l⟩ names) := by
      intro r hty hf
      exact ⟨r, Ev.suc (fun n => c4j n _ _) (Ev.from (N + l.length + 1) (fun n hn => hL n n _ (by omega) (by omega)) hf), hty⟩
    clear hL ih
    have hc : o = 0 ∨ o = 1 ∨ o = 2 ∨ o = 3 ∨ o = 4 ∨ o = 5 ∨ o = 6 ∨ o = 7 ∨ o = 8 ∨ o = 9 ∨ o = 10 ∨ o = 11 ∨ o = 12 ∨ o = 13 ∨ o = 14 ∨ o = 15 ∨ o = 16 := by omega
    rcases hc with rfl | rfl | rfl | rfl | rfl | rfl | rfl | rfl | rfl | rfl | rfl | rfl | rfl | rfl | rfl | rfl | rfl
    · obtain ⟨h5, rfl, rfl⟩ := hs.leaf
      obtain ⟨_, rfl⟩ := hp.len0 rfl
      exact out (1, 0) (Fnd.yes (Typ.num h5.1 h5.2) fun k hk => by cases hk; rfl) (Ev.all fun n => rfl)
    · obtain ⟨rfl, rfl⟩ := hp.len0 h3
      unfold a8d at hno
      rw [if_neg (by decide), if_pos (by decide)] at hno
      obtain ⟨rfl, hname⟩ := hno
      refine out (bif !decide (s ∈ names) then (0, 11) else (1, 0)) ?_ ?_
      · by_cases hm : s ∈ names
        · rw [decide_eq_true hm]; exact Fnd.yes (Typ.lifts hname hm) fun k hk => by cases hk; rfl
        · rw [decide_eq_false hm]; exact Fnd.no (by decide) fun k hk => by cases hk; contradiction
      · exact Ev.bind (f := fun n v2 => bif !v2 then some (0, 11) else some (1, 0)) (b4h s hn) (by cases decide (s ∈ names) <;> exact Ev.pure _)
    · obtain ⟨rfl, rfl⟩ := hp.len0 h3
      obtain ⟨rfl, rfl⟩ := a5k hno (by decide)
      exact out (1, 0) (Fnd.yes Typ.pers fun k hk => by cases hk; rfl) (Ev.all fun n => rfl)
    · obtain ⟨rfl, rfl⟩ := hp.len0 h3
      obtain ⟨rfl, rfl⟩ := a5k hno (by decide)
      exact out (1, 0) (Fnd.yes Typ.flats fun k hk => by cases hk; rfl) (Ev.all fun n => rfl)
    · obtain ⟨rfl, rfl⟩ := hp.len0 h3
      unfold a8d at hno
      rw [if_neg (by decide), if_pos (by decide)] at hno
      obtain ⟨rfl, hname⟩ := hno
      refine out (bif !decide (s ∈ names) then (0, 11) else (2, 0)) ?_ ?_
      · by_cases hm : s ∈ names
        · rw [decide_eq_true hm]; exact Fnd.yes (Typ.wgt hname hm) fun k hk => by cases hk; rfl
        · rw [decide_eq_false hm]; exact Fnd.no (by decide) fun k hk => by cases hk; contradiction
      · exact Ev.bind (f := fun n v2 => bif !v2 then some (0, 11) else some (2, 0)) (b4h s hn) (by cases decide (s ∈ names) <;> exact Ev.pure _)
    · obtain ⟨a, b, p, q, rfl, rfl, ha, hb⟩ := hp.len2 h3
      obtain ⟨rfl, rfl⟩ := a5k hno (by decide)
      exact out _ (b9j (by decide) ha hb) (b1x p q)
    · obtain ⟨a, b, p, q, rfl, rfl, ha, hb⟩ := hp.len2 h3
      obtain ⟨rfl, rfl⟩ := a5k hno (by decide)
      exact out _ (b9j (by decide) ha hb) (b1x p q)
    · obtain ⟨a, b, p, q, rfl, rfl, ha, hb⟩ := hp.len2 h3
      obtain ⟨rfl, rfl⟩ := a5k hno (by decide)
      refine out _ (c9k ha hb) ?_
      show Ev (fun n => (bif p == 2 then some (q == 2) else some false).bind fun v9 => bif v9 then some (0, 13) else (a2h n p q).bind fun v => some (v.1, v.2)) _
      refine Ev.bind (a := p == 2 && q == 2) (Ev.all fun n => by cases p == 2 <;> rfl) ?_
      cases p == 2 && q == 2
      · exact Ev.else rfl (b1x p q)
      · exact Ev.then rfl (Ev.pure _)
    · obtain ⟨a, b, p, q, rfl, rfl, ha, hb⟩ := hp.len2 h3
      obtain ⟨rfl, rfl⟩ := a5k hno (by decide)
      refine out _ (d0l ha hb (h4 b (by simp))) ?_
      show Ev (fun n => bif b.Op != 0 then some (0, 13) else bif b.N == 0 then some (0, 14) else (a2h n p q).bind fun v => some (v.1, v.2)) _
      cases b.Op != 0
      · cases b.N == 0
        · exact Ev.else rfl (Ev.else rfl (b1x p q))
        · exact Ev.else rfl (Ev.then rfl (Ev.pure _))
      · exact Ev.then rfl (Ev.pure _)
    · obtain ⟨a, b, p, q, rfl, rfl, ha, hb⟩ := hp.len2 h3
      obtain ⟨rfl, rfl⟩ := a5k hno (by decide)
      exact out _ (b9j (by decide) ha hb) (b1x p q)
    · obtain ⟨a, b, p, q, rfl, rfl, ha, hb⟩ := hp.len2 h3
      obtain ⟨rfl, rfl⟩ := a5k hno (by decide)
      exact out _ (b9j (by decide) ha hb) (b1x p q)
    · obtain ⟨c, a, b, r, p, q, rfl, rfl, hcc, ha, hb⟩ := hp.len3 h3
      obtain ⟨rfl, rfl⟩ := a5k hno (by decide)
      refine out _ (d0f hcc ha hb) ?_
      show Ev (fun n => bif r != 0 then some (0, 13) else (a2h n p q).bind fun v => some (v.1, v.2)) _
      cases r != 0
      · exact Ev.else rfl (b1x p q)
      · exact Ev.then rfl (Ev.pure _)
    · obtain ⟨a, b, p, q, rfl, rfl, ha, hb⟩ := hp.len2 h3
      obtain ⟨rfl, rfl⟩ := a5k hno (by decide)
      exact out _ (c5h (by decide) ha hb) (c7q p q 1)
    · obtain ⟨a, b, p, q, rfl, rfl, ha, hb⟩ := hp.len2 h3
      obtain ⟨rfl, rfl⟩ := a5k hno (by decide)
      exact out _ (c5h (by decide) ha hb) (c7q p q 1)
    · obtain ⟨a, p, rfl, rfl, ha⟩ := hp.len1 h3
      obtain ⟨rfl, rfl⟩ := a5k hno (by decide)
      exact out _ (d0i ha) (d2s p 0)
    · obtain ⟨a, b, p, q, rfl, rfl, ha, hb⟩ := hp.len2 h3
      obtain ⟨rfl, rfl⟩ := a5k hno (by decide)
      exact out _ (c5c (by decide) ha hb) (c7q p q 0)
    · obtain ⟨a, b, p, q, rfl, rfl, ha, hb⟩ := hp.len2 h3
      obtain ⟨rfl, rfl⟩ := a5k hno (by decide)
      exact out _ (c5c (by decide) ha hb) (c7q p q 0)
theorem Typ.uniq {names : List Rt.Bs} (hn : names.length < 4611686018427387904) {x : M.Expr} (hx : Fit x) {j k : Int} (h : Typ names x j) (h2 : Typ names x k) : j = k := by
  obtain ⟨r, _, hr⟩ := c1n hx names hn h.shx
  have e := (hr.2 j h).symm.trans (hr.2 k h2)
  exact (Prod.mk.inj e).1
def Chk (names : List Rt.Bs) (t : Tariff) : Prop := c4h names = true ∧ Wrt t ∧ ∃ k, k ≠ 0 ∧ Typ names t.Fee k
theorem c6p {t : Tariff} (hx : Fit t.Fee) (names : List Rt.Bs) (hn : names.length < 4611686018427387904) : Tt (fun e => e = 0 ↔ Chk names t) (fun n => a9i n t names) := by
  unfold a9i
  refine Tt.evb (c2y hn) (Tt.bif (fun h => Tt.pure ⟨fun h => (by cases h), fun h5 => ?_⟩) (fun h => ?_))
  · rw [h5.1] at h; cases h
  have hnm : c4h names = true := by simpa using h
  refine Tt.bind (c3z hx) fun b hb => ?_
  refine Tt.bif (fun h => Tt.pure ⟨fun h => (by cases h), fun h5 => ?_⟩) (fun h => ?_)
  · rw [hb.2 h5.2.1] at h; cases h
  have hw : Wrt t := hb.1 (by simpa using h)
  refine Tt.bind (c1n hx names hn hw.2.1.2) fun r hr => ?_
  refine Tt.bind (P := fun b => b = true ↔ r.2 = 0 ∧ r.1 = 0) (Tt.bif (fun h => Tt.pure ?_) (fun h => Tt.pure ?_)) fun b hb => ?_
  · have : r.2 = 0 := by simpa using h
    simp [this]
  · have : r.2 ≠ 0 := by simpa using h
    simp [this]
  refine Tt.bif (fun h => Tt.pure ⟨fun h => (by cases h), fun h5 => ?_⟩) (fun h => Tt.pure ⟨fun h5 => ?_, fun h5 => ?_⟩)
  · obtain ⟨_, _, k, hk, ht⟩ := h5
    have := hr.2 k ht
    have h7 := (hb.1 h).2
    rw [this] at h7
    exact absurd h7 hk
  · refine ⟨hnm, hw, r.1, fun h6 => ?_, hr.1 h5⟩
    rw [hb.2 ⟨h5, h6⟩] at h; cases h
  · obtain ⟨_, _, k, hk, ht⟩ := h5
    rw [hr.2 k ht]
end Go.Proofs.YtknpjecpcmajiaaGreat.Tp

namespace Go.Proofs.YtknpjecpcmajiaaGreat.D
def val : List Int → Int
  | [] => 0
  | d :: l => d + 1048576 * val l
def valc : List Int → Int → Int
  | [], c => c
  | d :: l, c => d + 1048576 * valc l c
def pw : Nat → Int
  | 0 => 1
  | k + 1 => 1048576 * pw k
def InR (l : List Int) : Prop := ∀ d ∈ l, 0 ≤ d ∧ d < 1048576
theorem InR.nil : InR [] := by intro d hd; simp at hd
theorem InR.cons {d : Int} {l : List Int} (h0 : 0 ≤ d) (h1 : d < 1048576) (h : InR l) : InR (d :: l) := by
  intro e he
  rcases List.mem_cons.1 he with rfl | he
  · exact ⟨h0, h1⟩
  · exact h e he
theorem InR.head {d : Int} {l : List Int} (h : InR (d :: l)) : 0 ≤ d ∧ d < 1048576 := h d (by simp)
theorem InR.tail {d : Int} {l : List Int} (h : InR (d :: l)) : InR l := fun e he => h e (by simp [he])
theorem InR.append {a b : List Int} (h : InR a) (k : InR b) : InR (a ++ b) := by
  intro e he
  rcases List.mem_append.1 he with he | he
  · exact h e he
  · exact k e he
theorem InR.left {a b : List Int} (h : InR (a ++ b)) : InR a := fun e he => h e (by simp [he])
theorem InR.right {a b : List Int} (h : InR (a ++ b)) : InR b := fun e he => h e (by simp [he])
theorem InR.rep (k : Nat) : InR (List.replicate k 0) := by
  intro e he
  rw [(List.mem_replicate.1 he).2]; decide
theorem InR.headD {l : List Int} (h : InR l) : 0 ≤ l.headD 0 ∧ l.headD 0 < 1048576 := by
  cases l with
  | nil => simp
  | cons d l => simpa using h.head
theorem InR.tail' {l : List Int} (h : InR l) : InR l.tail := by
  cases l with
  | nil => exact h
  | cons d l => exact h.tail
theorem pw_pos : ∀ k, 0 < pw k
  | 0 => by decide
  | k + 1 => by have := pw_pos k; simp only [pw]; omega
theorem valc_eq : ∀ (l : List Int) (c : Int), valc l c = val l + pw l.length * c
  | [], c => by simp [valc, val, pw]
  | d :: l, c => by simp only [valc, val, pw, List.length_cons, valc_eq l c]; grind
theorem val_append : ∀ (a b : List Int), val (a ++ b) = val a + pw a.length * val b
  | [], b => by simp [val, pw]
  | d :: a, b => by simp only [List.cons_append, val, pw, List.length_cons, val_append a b]; grind
theorem b4d (a b : List Int) : valc a (val b) = val (a ++ b) := by rw [valc_eq, val_append]
theorem val_nonneg : ∀ {l : List Int}, InR l → 0 ≤ val l
  | [], _ => by simp [val]
  | d :: l, h => by have := val_nonneg h.tail; have := h.head; simp only [val]; omega
theorem val_lt : ∀ {l : List Int}, InR l → val l < pw l.length
  | [], _ => by simp [val, pw]
  | d :: l, h => by have := val_lt h.tail; have := h.head; simp only [val, pw, List.length_cons]; omega
theorem val_rep : ∀ k, val (List.replicate k 0) = 0
  | 0 => rfl
  | k + 1 => by rw [List.replicate_succ]; simp only [val, val_rep k]; rfl
def dig (v : Nat) : List Int := if v = 0 then [] else ((v % 1048576 : Nat) : Int) :: dig (v / 1048576)
  termination_by v
  decreasing_by omega
theorem dig_zero : dig 0 = [] := by rw [dig]; simp
theorem b1v {v : Nat} (h : v ≠ 0) : dig v = ((v % 1048576 : Nat) : Int) :: dig (v / 1048576) := by rw [dig]; simp [h]
theorem a2k (v : Nat) : val (dig v) = v := by
  induction v using Nat.strongRecOn with
  | ind v ih =>
    by_cases h : v = 0
    · subst h; rw [dig_zero]; rfl
    · rw [b1v h]; simp only [val]; rw [ih (v / 1048576) (by omega)]; omega
theorem a3a (v : Nat) : InR (dig v) := by
  induction v using Nat.strongRecOn with
  | ind v ih =>
    by_cases h : v = 0
    · subst h; rw [dig_zero]; exact InR.nil
    · rw [b1v h]; exact InR.cons (by omega) (by omega) (ih _ (by omega))
theorem b3u {v : Nat} (h : v ≠ 0) : dig v ≠ [] := by rw [b1v h]; simp
theorem b4u (v : Nat) : (dig v).getLast? ≠ some 0 := by
  induction v using Nat.strongRecOn with
  | ind v ih =>
    by_cases h : v = 0
    · subst h; rw [dig_zero]; simp
    · rw [b1v h]
      by_cases h2 : v / 1048576 = 0
      · rw [h2, dig_zero]; simp; omega
      · have := ih _ (show v / 1048576 < v by omega)
        rw [List.getLast?_cons]
        have h3 := b3u h2
        cases hg : (dig (v / 1048576)).getLast? with
        | none => rw [List.getLast?_eq_none_iff] at hg; exact absurd hg h3
        | some z => simp [hg] at this ⊢; exact this
def Canon (l : List Int) : Prop := InR l ∧ l.getLast? ≠ some 0
theorem Canon.tail {d : Int} {l : List Int} (h : Canon (d :: l)) : Canon l := by
  refine ⟨h.1.tail, ?_⟩
  cases l with
  | nil => simp
  | cons e l => have := h.2; rw [List.getLast?_cons_cons] at this; exact this
theorem a9l (v : Nat) : Canon (dig v) := ⟨a3a v, b4u v⟩
theorem dig_val : ∀ {l : List Int}, Canon l → dig (val l).toNat = l
  | [], _ => by simp [val, dig_zero]
  | d :: l, h => by
    have ih := dig_val h.tail
    have h0 := h.1.head
    have h1 := val_nonneg h.1.tail
    simp only [val]
    have hne : (d + 1048576 * val l).toNat ≠ 0 := by
      intro e
      have e1 : val l = 0 := by omega
      have e2 : d = 0 := by omega
      rw [e1] at ih
      simp only [Int.toNat_zero, dig_zero] at ih
      subst ih e2
      exact h.2 rfl
    rw [b1v hne]
    have e1 : (((d + 1048576 * val l).toNat % 1048576 : Nat) : Int) = d := by omega
    have e2 : (d + 1048576 * val l).toNat / 1048576 = (val l).toNat := by omega
    rw [e1, e2, ih]
theorem c9s {u v : Nat} (h : dig u = dig v) : u = v := by
  have h1 := a2k u
  rw [h, a2k] at h1; omega
theorem split_dig : ∀ {l : List Int}, InR l → ∃ r, l = dig (val l).toNat ++ List.replicate r 0
  | [], _ => ⟨0, by simp [val, dig_zero]⟩
  | d :: l, h => by
    obtain ⟨r, hr⟩ := split_dig h.tail
    have h0 := h.head
    have h1 := val_nonneg h.tail
    simp only [val]
    by_cases hz : (d + 1048576 * val l).toNat = 0
    · have e1 : val l = 0 := by omega
      have e2 : d = 0 := by omega
      rw [e1] at hr
      simp only [Int.toNat_zero, dig_zero, List.nil_append] at hr
      refine ⟨r + 1, ?_⟩
      rw [hz, dig_zero, e2, hr, List.replicate_succ]; simp
    · refine ⟨r, ?_⟩
      rw [b1v hz]
      have e1 : (((d + 1048576 * val l).toNat % 1048576 : Nat) : Int) = d := by omega
      have e2 : (d + 1048576 * val l).toNat / 1048576 = (val l).toNat := by omega
      rw [e1, e2]
      conv => lhs; rw [hr]
      simp
theorem b5c {l : List Int} (h : InR l) : (dig (val l).toNat).length ≤ l.length := by
  obtain ⟨r, hr⟩ := split_dig h
  conv => rhs; rw [hr]
  simp
theorem val_lt_of_len : ∀ {a b : List Int}, InR a → Canon b → a.length < b.length → val a < val b
  | [], [], _, _, h => by simp at h
  | [], d :: l, _, hb, _ => by
    have h1 := val_nonneg hb.1
    have h2 : val (d :: l) ≠ 0 := by
      intro e
      have := dig_val hb
      rw [e] at this
      simp [dig_zero] at this
    simp only [val] at *; omega
  | x :: xs, [], _, _, h => by simp at h
  | x :: xs, y :: ys, ha, hb, h => by
    have := val_lt_of_len ha.tail hb.tail (by simpa using h)
    have := ha.head
    have := hb.1.head
    simp only [val]; omega
theorem a5n {u v : Nat} (h : u ≤ v) : (dig u).length ≤ (dig v).length := by
  rcases Nat.lt_or_ge (dig v).length (dig u).length with h1 | h1
  · have := val_lt_of_len (a3a v) (a9l u) h1
    rw [a2k, a2k] at this; omega
  · exact h1
def addD : Int → List Int → List Int → List Int × Int
  | c, [], _ => ([], c)
  | c, x :: xs, ys => ((c + x + ys.headD 0) % 1048576 :: (addD ((c + x + ys.headD 0) / 1048576) xs ys.tail).1, (addD ((c + x + ys.headD 0) / 1048576) xs ys.tail).2)
theorem addD_val : ∀ (xs ys : List Int) (c : Int), ys.length ≤ xs.length → valc (addD c xs ys).1 (addD c xs ys).2 = c + val xs + val ys
  | [], ys, c, h => by
    have : ys = [] := List.eq_nil_of_length_eq_zero (by simpa using h)
    subst this; simp [addD, valc, val]
  | x :: xs, ys, c, h => by
    have ih := addD_val xs ys.tail ((c + x + ys.headD 0) / 1048576) (by simp at h ⊢; omega)
    simp only [addD, valc, ih, val]
    cases ys with
    | nil => simp [val]; omega
    | cons y ys => simp [val]; omega
theorem addD_len : ∀ (xs ys : List Int) (c : Int), (addD c xs ys).1.length = xs.length
  | [], _, _ => rfl
  | x :: xs, ys, c => by simp [addD, addD_len xs]
theorem addD_in : ∀ (xs ys : List Int) (c : Int), InR (addD c xs ys).1
  | [], _, _ => InR.nil
  | x :: xs, ys, c => InR.cons (by omega) (by omega) (addD_in xs _ _)
theorem addD_carry : ∀ (xs ys : List Int) (c : Int), InR xs → InR ys → 0 ≤ c → c ≤ 1 → 0 ≤ (addD c xs ys).2 ∧ (addD c xs ys).2 ≤ 1
  | [], _, c, _, _, h0, h1 => ⟨h0, h1⟩
  | x :: xs, ys, c, hx, hy, h0, h1 => by
    have := hx.head
    have := hy.headD
    exact addD_carry xs ys.tail _ hx.tail hy.tail' (by omega) (by omega)
def setD (g : Int) : Int → List Int → List Int → List Int × Int
  | b, [], _ => ([], b)
  | b, u :: us, vs => ((u - b - g * vs.headD 0) % 1048576 :: (setD g (-((u - b - g * vs.headD 0) / 1048576)) us vs.tail).1, (setD g (-((u - b - g * vs.headD 0) / 1048576)) us vs.tail).2)
theorem b9a (g : Int) : ∀ (us vs : List Int) (b : Int), vs.length ≤ us.length → valc (setD g b us vs).1 (-(setD g b us vs).2) = val us - b - g * val vs
  | [], vs, b, h => by
    have : vs = [] := List.eq_nil_of_length_eq_zero (by simpa using h)
    subst this; simp [setD, valc, val]
  | u :: us, vs, b, h => by
    have ih := b9a g us vs.tail (-((u - b - g * vs.headD 0) / 1048576)) (by simp at h ⊢; omega)
    simp only [setD, valc, ih, val]
    cases vs with
    | nil => simp [val]; omega
    | cons v vs =>
      simp only [List.headD_cons, List.tail_cons, val]
      rw [show g * (v + 1048576 * val vs) = g * v + 1048576 * (g * val vs) by grind]
      generalize g * v = p
      generalize g * val vs = q
      omega
theorem b3k (g : Int) : ∀ (us vs : List Int) (b : Int), (setD g b us vs).1.length = us.length
  | [], _, _ => rfl
  | x :: xs, ys, c => by simp [setD, b3k g xs]
theorem b2m (g : Int) : ∀ (us vs : List Int) (b : Int), InR (setD g b us vs).1
  | [], _, _ => InR.nil
  | x :: xs, ys, c => InR.cons (by omega) (by omega) (b2m g xs _ _)
theorem b4c {g v : Int} (hg : 0 ≤ g) (h0 : 0 ≤ v) (h1 : v < 1048576) : 0 ≤ g * v ∧ g * v ≤ g * 1048576 - g := by
  have h2 := Int.mul_nonneg hg h0
  have h3 := Int.mul_le_mul_of_nonneg_left (show v ≤ 1048575 by omega) hg
  omega
theorem b3v {g : Int} (hg : 0 ≤ g) : ∀ (us vs : List Int) (b : Int), InR us → InR vs → 0 ≤ b → b ≤ g → 0 ≤ (setD g b us vs).2 ∧ (setD g b us vs).2 ≤ g
  | [], _, b, _, _, h0, h1 => ⟨h0, h1⟩
  | u :: us, vs, b, hu, hv, h0, h1 => by
    have := hu.head
    have := hv.headD
    have := b4c (g := g) hg this.1 this.2
    exact b3v hg us vs.tail _ hu.tail hv.tail' (by omega) (by omega)
def mulD (x : Int) : Int → List Int → List Int → List Int × Int
  | c, [], _ => ([], c)
  | c, y :: ys, ws => ((ws.headD 0 + x * y + c) % 1048576 :: (mulD x ((ws.headD 0 + x * y + c) / 1048576) ys ws.tail).1, (mulD x ((ws.headD 0 + x * y + c) / 1048576) ys ws.tail).2)
theorem c2v (x : Int) : ∀ (ys ws : List Int) (c : Int), ws.length = ys.length → valc (mulD x c ys ws).1 (mulD x c ys ws).2 = val ws + x * val ys + c
  | [], ws, c, h => by
    have : ws = [] := List.eq_nil_of_length_eq_zero (by simpa using h)
    subst this; simp [mulD, valc, val]
  | y :: ys, [], c, h => by simp at h
  | y :: ys, w :: ws, c, h => by
    have ih := c2v x ys ws ((w + x * y + c) / 1048576) (by simpa using h)
    simp only [mulD, List.headD_cons, List.tail_cons, valc, ih, val]
    rw [show x * (y + 1048576 * val ys) = x * y + 1048576 * (x * val ys) by grind]
    generalize x * y = p
    generalize x * val ys = q
    omega
theorem b6k (x : Int) : ∀ (ys ws : List Int) (c : Int), (mulD x c ys ws).1.length = ys.length
  | [], _, _ => rfl
  | y :: ys, ws, c => by simp [mulD, b6k x ys]
theorem c2a (x : Int) : ∀ (ys ws : List Int) (c : Int), InR (mulD x c ys ws).1
  | [], _, _ => InR.nil
  | y :: ys, ws, c => InR.cons (by omega) (by omega) (c2a x ys _ _)
theorem b7e {x y : Int} (h0 : 0 ≤ x) (h1 : x < 1048576) (h2 : 0 ≤ y) (h3 : y < 1048576) : 0 ≤ x * y ∧ x * y ≤ 1099509530625 := by
  have h4 := b4c h0 h2 h3
  omega
theorem b5e {x : Int} (h0 : 0 ≤ x) (h1 : x < 1048576) : ∀ (ys ws : List Int) (c : Int), InR ys → InR ws → 0 ≤ c → c < 1048576 → 0 ≤ (mulD x c ys ws).2 ∧ (mulD x c ys ws).2 < 1048576
  | [], _, c, _, _, h2, h3 => ⟨h2, h3⟩
  | y :: ys, ws, c, hy, hw, h2, h3 => by
    have e1 := hy.head
    have e2 := hw.headD
    have e3 := b7e h0 h1 e1.1 e1.2
    exact b5e h0 h1 ys ws.tail _ hy.tail hw.tail' (by omega) (by omega)
def mulF (b : List Int) : List Int → List Int → List Int
  | [], w => w
  | x :: xs, w => ((mulD x 0 b w).1 ++ [(mulD x 0 b w).2]).headD 0 :: mulF b xs (((mulD x 0 b w).1 ++ [(mulD x 0 b w).2]).tail)
theorem c6j {l : List Int} (h : l ≠ []) : l.headD 0 + 1048576 * val l.tail = val l := by
  cases l with
  | nil => exact absurd rfl h
  | cons d l => rfl
theorem b9s (b : List Int) : ∀ (xs w : List Int), w.length = b.length → val (mulF b xs w) = val w + val xs * val b
  | [], w, _ => by simp [mulF, val]
  | x :: xs, w, h => by
    have e1 := c2v x b w 0 h
    have e2 := b9s b xs (((mulD x 0 b w).1 ++ [(mulD x 0 b w).2]).tail) (by simp [b6k])
    have e3 := c6j (l := (mulD x 0 b w).1 ++ [(mulD x 0 b w).2]) (by simp)
    have e4 : val ((mulD x 0 b w).1 ++ [(mulD x 0 b w).2]) = valc (mulD x 0 b w).1 (mulD x 0 b w).2 := by
      rw [← b4d]; simp [val]
    simp only [mulF, val, e2]
    rw [show (x + 1048576 * val xs) * val b = x * val b + 1048576 * (val xs * val b) by grind]
    generalize x * val b = p at *
    generalize val xs * val b = q at *
    omega
theorem b6o (b : List Int) : ∀ (xs w : List Int), w.length = b.length → (mulF b xs w).length = xs.length + b.length
  | [], w, h => by simp [mulF, h]
  | x :: xs, w, h => by simp [mulF, b6o b xs _ (show (((mulD x 0 b w).1 ++ [(mulD x 0 b w).2]).tail).length = b.length by simp [b6k])]; omega
theorem c1p {b : List Int} (hb : InR b) : ∀ (xs w : List Int), InR xs → InR w → InR (mulF b xs w)
  | [], w, _, hw => hw
  | x :: xs, w, hx, hw => by
    have h0 := hx.head
    have e1 := b5e h0.1 h0.2 b w 0 hb hw (by decide) (by decide)
    have e2 : InR ((mulD x 0 b w).1 ++ [(mulD x 0 b w).2]) := (c2a x b w 0).append (InR.cons e1.1 e1.2 InR.nil)
    simp only [mulF]
    exact InR.cons e2.headD.1 e2.headD.2 (c1p hb xs _ hx.tail e2.tail')
def a5t (V : Int) : List Int → Int → List Int × Int
  | [], r => ([], r)
  | x :: xs, r => (((a5t V xs r).2 * 1048576 + x) / V :: (a5t V xs r).1, ((a5t V xs r).2 * 1048576 + x) % V)
theorem b7k {V : Int} : ∀ (l : List Int) (r : Int), val (a5t V l r).1 * V + (a5t V l r).2 = valc l r
  | [], r => by simp [a5t, val, valc]
  | x :: xs, r => by
    have ih := b7k (V := V) xs r
    simp only [a5t, val, valc]
    have h1 := Int.mul_ediv_add_emod ((a5t V xs r).2 * 1048576 + x) V
    rw [Int.add_mul, Int.mul_assoc]
    rw [Int.mul_comm V] at h1
    generalize ((a5t V xs r).2 * 1048576 + x) / V * V = p at *
    generalize val (a5t V xs r).1 * V = q at *
    omega
theorem b4o (V : Int) : ∀ (l : List Int) (r : Int), (a5t V l r).1.length = l.length
  | [], _ => rfl
  | x :: xs, r => by simp [a5t, b4o V xs]
theorem b4t {V : Int} (hV : 0 < V) : ∀ (l : List Int) (r : Int), 0 ≤ r → r < V → 0 ≤ (a5t V l r).2 ∧ (a5t V l r).2 < V
  | [], r, h0, h1 => ⟨h0, h1⟩
  | x :: xs, r, _, _ => ⟨Int.emod_nonneg _ (by omega), Int.emod_lt_of_pos _ hV⟩
theorem b9o {V : Int} (hV : 0 < V) : ∀ (l : List Int) (r : Int), InR l → 0 ≤ r → r < V → InR (a5t V l r).1
  | [], _, _, _, _ => InR.nil
  | x :: xs, r, hl, h0, h1 => by
    have h2 := b4t hV xs r h0 h1
    have h3 := hl.head
    refine InR.cons (Int.ediv_nonneg (by omega) (by omega)) (Int.ediv_lt_of_lt_mul hV ?_) (b9o hV xs r hl.tail h0 h1)
    omega
def sg (x : Int) : Int := if x < 0 then -1 else if 0 < x then 1 else 0
def cmpD : List Int → List Int → Int
  | x :: xs, y :: ys => if cmpD xs ys = 0 then sg (x - y) else cmpD xs ys
  | _, _ => 0
theorem cmpD_val : ∀ {a b : List Int}, InR a → InR b → a.length = b.length → cmpD a b = sg (val a - val b)
  | [], [], _, _, _ => by simp [cmpD, sg, val]
  | [], _ :: _, _, _, h => by simp at h
  | _ :: _, [], _, _, h => by simp at h
  | x :: xs, y :: ys, ha, hb, h => by
    have ih := cmpD_val ha.tail hb.tail (by simpa using h)
    have h1 := ha.head
    have h2 := hb.head
    simp only [cmpD, val, ih]
    unfold sg
    split <;> split <;> (try split) <;> (try split) <;> (try split) <;> omega
theorem cmpD_drop : ∀ (k : Nat) (a b : List Int), cmpD (a.drop k) (b.drop k) ≠ 0 → cmpD a b = cmpD (a.drop k) (b.drop k)
  | 0, _, _, _ => by simp
  | k + 1, [], b, h => by simp [cmpD] at h
  | k + 1, _ :: _, [], h => by simp [cmpD] at h
  | k + 1, x :: xs, y :: ys, h => by
    simp only [List.drop_succ_cons] at h ⊢
    have ih := cmpD_drop k xs ys h
    simp only [cmpD, ih, if_neg h]
theorem b3e (V : Int) : ∀ (a b : List Int) (r : Int), a5t V (a ++ b) r = ((a5t V a (a5t V b r).2).1 ++ (a5t V b r).1, (a5t V a (a5t V b r).2).2)
  | [], b, r => rfl
  | x :: xs, b, r => by
    simp only [List.cons_append, a5t, b3e V xs b r]
theorem pw_mono : ∀ {a b : Nat}, a ≤ b → pw a ≤ pw b
  | 0, 0, _ => Int.le_refl _
  | 0, b + 1, _ => by have := pw_pos b; have := pw_mono (Nat.zero_le b); simp only [pw] at *; omega
  | a + 1, 0, h => by omega
  | a + 1, b + 1, h => by have := pw_mono (show a ≤ b by omega); simp only [pw]; omega
theorem c3l {V1 V2 Vl P g rest T u2 Ul B : Int} (hB : B = 1048576) (hT : g * V1 + rest = T) (hV : 0 ≤ Vl) (hU : Ul < P) (hg : 0 ≤ g) (hbig : rest * B + u2 < g * V2) (hP : 0 < P) :
    Ul + P * (u2 + B * T) < g * (Vl + P * (V2 + B * V1)) := by
  have h1 : Ul + P * (u2 + B * T) - g * (Vl + P * (V2 + B * V1)) = Ul - g * Vl + P * (u2 + rest * B - g * V2) := by grind
  have h2 := Int.mul_nonneg hg hV
  have h3 : P * (u2 + rest * B - g * V2) ≤ P * (-1) := Int.mul_le_mul_of_nonneg_left (by omega) (by omega)
  omega
theorem c4o {V1 V2 Vl P g rest T u2 Ul B : Int} (hB : B = 1048576) (hT : g * V1 + rest = T) (hV : 0 ≤ Vl) (hVP : Vl ≤ P) (hU : 0 ≤ Ul) (hgB : g ≤ B) (hsm : g * V2 ≤ rest * B + u2) (hP : 0 < P) (h1 : 1 ≤ V1) (h2 : 0 ≤ V2) :
    (g - 1) * (Vl + P * (V2 + B * V1)) ≤ Ul + P * (u2 + B * T) := by
  have e1 : Ul + P * (u2 + B * T) - (g - 1) * (Vl + P * (V2 + B * V1)) = Ul - g * Vl + P * (u2 + rest * B - g * V2) + Vl + P * V2 + P * B * V1 := by grind
  have e2 : 0 ≤ P * (u2 + rest * B - g * V2) := Int.mul_nonneg (by omega) (by omega)
  have e3 : g * Vl ≤ B * P := Int.mul_le_mul hgB hVP hV (by omega)
  have e4 : P * B * 1 ≤ P * B * V1 := Int.mul_le_mul_of_nonneg_left h1 (Int.mul_nonneg (by omega) (by omega))
  have e5 : 0 ≤ P * V2 := Int.mul_nonneg (by omega) h2
  have e6 : B * P = P * B := Int.mul_comm _ _
  omega
theorem b9i {U V q : Int} (hV : 0 < V) (h0 : q * V ≤ U) (h1 : U < (q + 1) * V) : U / V = q ∧ U % V = U - q * V := by
  have h2 : (q + 1) * V = q * V + V := by grind
  have h3 := Int.ediv_emod_unique (a := U) (b := V) (r := U - q * V) (q := q) hV
  have h4 := h3.2 ⟨by rw [Int.mul_comm V q]; omega, by omega, by omega⟩
  exact h4
end Go.Proofs.YtknpjecpcmajiaaGreat.D

