/- Several texts in one, for ProofNarrows.card: what the theorem leans on. -/
import Derived.Shelf.Strconv.AtoiAll
import Derived.Shelf.SlicesE.Clone
import Derived.Lib.LaidTab
import Derived.Lib.AppendIntMem
import Derived.Test.YteekaonhdckicaaGreatDoorRows
import Derived.WalkKit
import Derived.ProofKit
import Derived.OpenShut
import Derived.Deep.DeepHandedRow
import Derived.Stop.LaidErr
import Derived.Deep.Slices
import Derived.Test.YteekaonhdckicaaGreatDoorPn3
namespace Go.Proofs.YteekaonhdckicaaGreatDoor.Dp
open Go Go.RowKit Go.Proofs.YteekaonhdckicaaGreatDoor.Rt Go.Proofs
set_option linter.unusedVariables false
section
variable {P : Program} {T : Ty P}
theorem HS_below {F : Frz} {w w' : World} (hs : Sat F w) (hb : Below w.heap.size w w') : HS F w [] F [] w' :=
  ⟨fun b o hf => by rw [hb.block b (Sat.lt hs (by simp [hf]))]; exact hs b o hf, Frz.refl F, fun _ h => .inl h, by simp, by simp, List.Pairwise.nil, hb.os, hb.tape, hb.output, hb.size, fun k h _ => hb.block k h⟩
theorem fnOk_val {f : FuncId} {vs : List VT} {r : DV} (he : Ent P f) (h : ∀ (w : World) (F : Frz) (us : List Value), Sat F w → GlR T F → VRL F vs us → Calls P f us.toArray w fun x w' => ∃ v F', x = .returned v ∧ HS F w [] F' [] w' ∧ Conc [] [] F' r v) : FnOk T f (vs.map .v) [] r [] := by
  refine ⟨he, by simp, fun w F X Wc us hR hc => ?_⟩
  have hW : Wc = [] := List.eq_nil_of_length_eq_zero (by rw [← hR.len]; rfl)
  subst hW
  refine (h w F us hR.hd.sat hR.gl (concL_v.2 hc)).mono ?_
  rintro x w' ⟨v, F', rfl, k, hv⟩
  refine ⟨v, F', [], rfl, ⟨rfl, fun i b e h1 => by simp at h1, ?_, hR.gl.mono T k.le, fun i e0 h1 => by simp at h1⟩, hv⟩
  exact ⟨k.sat, k.le, fun b hb => (k.new b hb).elim .inl fun h => .inr (.inl h), by simp [ownW], by simp [ownW], List.Pairwise.nil, k.os, k.tape, k.output, k.size, fun b h1 _ => k.old b h1 (by simp)⟩
theorem fnOk_below {f : FuncId} {vs : List VT} {r : DV} (he : Ent P f) (h : ∀ (w : World) (F : Frz) (us : List Value), Sat F w → GlR T F → VRL F vs us → Calls P f us.toArray w fun x w' => ∃ v, x = .returned v ∧ Below w.heap.size w w' ∧ Conc [] [] F r v) : FnOk T f (vs.map .v) [] r [] :=
  fnOk_val he fun w F us hs hg hv => (h w F us hs hg hv).mono fun x w' ⟨v, h1, h2, h3⟩ => ⟨v, F, h1, HS_below hs h2, h3⟩
theorem vrl1 {F : Frz} {x : VT} {us : List Value} (h : VRL F [x] us) : ∃ u, us = [u] ∧ VR F x u := by
  obtain ⟨u, r, rfl, h1, h2⟩ := h
  cases h2
  exact ⟨u, rfl, h1⟩
theorem vrl2 {F : Frz} {x y : VT} {us : List Value} (h : VRL F [x, y] us) : ∃ u v, us = [u, v] ∧ VR F x u ∧ VR F y v := by
  obtain ⟨u, r, rfl, h1, h2⟩ := h
  obtain ⟨v, rfl, h3⟩ := vrl1 h2
  exact ⟨u, v, rfl, h1, h3⟩
theorem okB_some {c : Bool} {r d : DV} (h : okB c r = some d) : c = true ∧ r = d := by
  cases c with
  | true => exact ⟨rfl, Option.some.inj h⟩
  | false => cases h
theorem tab_ok {w : World} {F : Frz} (hs : Sat F w) (hg : GlR tt F) : Lib.TabIs Tryz.prog w "internal/strconv.uint64pow10" .u64 Lib.pow10Tab := by
  obtain ⟨u, t, z, h1, cs, rfl, h3, _⟩ := hg.1 1 _ rfl
  have h2 := hs _ _ h1
  have hn : Tryz.prog.globalNamed "internal/strconv.uint64pow10" = some 1 := by kernel_rfl
  have : ∀ {l : List Int} {cs : List Value}, VRL F (l.map (VT.int .u64)) cs → cs = l.map (Value.int .u64) := by
    intro l
    induction l with
    | nil => intro cs h; exact h
    | cons x l ih => rintro cs ⟨v, r, rfl, h4, h5⟩; rw [ih h5]; cases h4; rfl
  rw [this h3] at h2
  have h2 : w.heap[1]? = some (.cells (Lib.pow10Tab.map (Value.int .u64)).toArray t z) := h2
  unfold Lib.TabIs World.var?
  rw [hn]
  simp [h2]
end
theorem itoa_ok {vs : List VT} {r : DV} (h : xItoa vs = some r) : FnOk tt 134 (vs.map .v) [] r [] := by
  unfold xItoa at h
  split at h
  · rename_i n
    obtain ⟨hb, rfl⟩ := okB_some h
    simp only [Bool.and_eq_true, decide_eq_true_eq] at hb
    refine fnOk_below (fun _ _ => by kernel_rfl) fun w F us hs hg hv => ?_
    obtain ⟨u, rfl, rfl⟩ := vrl1 hv
    refine (Tryz.strconv_Itoa n hb.1 hb.2 w (tab_ok hs hg)).mono ?_
    rintro e w' ⟨rfl, k, os, rfl⟩
    exact ⟨_, rfl, Lib.below_grow _ _ (Nat.le_refl _) _ _, rfl⟩
  · cases h
theorem strs_ok {F : Frz} {q : Nat} : ∀ {xs : List VT} {l : List Bs} {us : List Value}, strs xs = some l → VRX F q xs us → xs.length = l.length ∧ us = l.map Rt.vs
  | [], l, us, h, hv => by cases h; exact ⟨rfl, hv⟩
  | .str s :: xs, l, us, h, hv => by
    obtain ⟨u, r, rfl, h1, h2, h3⟩ := hv
    simp only [strs] at h
    split at h
    · rename_i q' hq
      cases h
      obtain ⟨k1, k2⟩ := strs_ok hq h3
      cases h2
      exact ⟨by simp [k1], by rw [k2]; rfl⟩
    · cases h
  | .int _ _ :: _, _, _, h, _ => by cases h
  | .bool _ :: _, _, _, h, _ => by cases h
  | .agg _ :: _, _, _, h, _ => by cases h
  | .sl _ :: _, _, _, h, _ => by cases h
  | .el _ _ :: _, _, _, h, _ => by cases h
  | .clo _ _ _ :: _, _, _, h, _ => by cases h
  | .val _ :: _, _, _, h, _ => by cases h
  | .ifc :: _, _, _, h, _ => by cases h
  | .ifv _ _ :: _, _, _, h, _ => by cases h
theorem join_ok {vs : List VT} {r : DV} (h : xJoin vs = some r) : FnOk tt 137 (vs.map .v) [] r [] := by
  unfold xJoin at h
  split at h
  · rename_i xs sep
    split at h
    · rename_i l hl
      obtain ⟨hb, rfl⟩ := okB_some h
      simp only [Bool.and_eq_true, decide_eq_true_eq] at hb
      refine fnOk_below (fun _ _ => by kernel_rfl) fun w F us hs hg hv => ?_
      obtain ⟨u, v, rfl, ⟨a, m, n, rfl, h1, h2, h3, h4⟩, rfl⟩ := vrl2 hv
      rcases h4 with rfl | ⟨b, o, q, us, rfl, h5, h6⟩
      · cases hl
        cases h1
        refine (Tryz.strings_Join_none a n ⟨sep.toArray⟩ w).mono ?_
        rintro e w' ⟨rfl, rfl⟩
        exact ⟨_, rfl, Below.refl _ _, rfl⟩
      · obtain ⟨k1, rfl⟩ := strs_ok hl h6
        rw [k1] at h1 h2
        subst h1
        have e1 : (l.map fun x => (⟨x.toArray⟩ : ByteArray)).map (fun x => x.data.toList) = l := by rw [List.map_map]; exact List.map_id l
        have hb' : b < w.heap.size := by
          obtain ⟨c1, t1, z1, h5, _⟩ := h5
          exact Sat.lt hs (by simp [h5])
        have h6 := Tryz.strings_Join b o n (l.map fun x => (⟨x.toArray⟩ : ByteArray)) ⟨sep.toArray⟩ w (fun j x hj => by
          obtain ⟨y, hy, rfl⟩ : ∃ y, l[j]? = some y ∧ (⟨y.toArray⟩ : ByteArray) = x := by simpa [List.getElem?_map] using hj
          exact h5.cell hs (by simp [hy, Rt.vs])) hb' (by simpa using hb.1) (by simpa using h2) (by rw [e1]; exact hb.2)
        rw [e1, List.length_map] at h6
        refine h6.mono ?_
        rintro e w' ⟨rfl, hb⟩
        exact ⟨_, rfl, hb, rfl⟩
    · cases h
  · cases h
theorem repeat_ok {vs : List VT} {r : DV} (h : xRepeat vs = some r) : FnOk tt 135 (vs.map .v) [] r [] := by
  unfold xRepeat at h
  split at h
  · rename_i s n
    obtain ⟨hb, rfl⟩ := okB_some h
    simp only [Bool.and_eq_true, decide_eq_true_eq] at hb
    refine fnOk_below (fun _ _ => by kernel_rfl) fun w F us hs hg hv => ?_
    obtain ⟨u, v, rfl, rfl, rfl⟩ := vrl2 hv
    obtain ⟨p, rfl⟩ := Int.eq_ofNat_of_zero_le hb.1.1
    refine (Tryz.strings_Repeat ⟨s.toArray⟩ p w (by omega) (by rw [size_mk]; simpa using hb.2)).mono ?_
    rintro e w' ⟨rfl, hb⟩
    exact ⟨_, rfl, hb, rfl⟩
  · cases h
theorem indexByte_ok {vs : List VT} {r : DV} (h : xIndexByte vs = some r) : FnOk tt 197 (vs.map .v) [] r [] := by
  unfold xIndexByte at h
  split at h
  · rename_i s n
    cases h
    refine fnOk_below (fun _ _ => by kernel_rfl) fun w F us hs hg hv => ?_
    obtain ⟨u, v, rfl, rfl, rfl⟩ := vrl2 hv
    refine (Tryz.strings_IndexByte ⟨s.toArray⟩ n w).mono ?_
    rintro e w' ⟨rfl, rfl⟩
    exact ⟨_, rfl, Below.refl _ _, rfl⟩
  · cases h
theorem cutPrefix_ok {vs : List VT} {r : DV} (h : xCutPrefix vs = some r) : FnOk tt 144 (vs.map .v) [] r [] := by
  unfold xCutPrefix at h
  split at h
  · rename_i s p
    cases h
    refine fnOk_below (fun _ _ => by kernel_rfl) fun w F us hs hg hv => ?_
    obtain ⟨u, v, rfl, rfl, rfl⟩ := vrl2 hv
    refine (Tryz.strings_CutPrefix ⟨s.toArray⟩ ⟨p.toArray⟩ w).mono ?_
    rintro e w' ⟨rfl, rfl⟩
    exact ⟨_, rfl, Below.refl _ _, _, rfl, _, _, rfl, rfl, _, _, rfl, rfl, rfl⟩
  · cases h
theorem islite_ok {vs : List VT} {r : DV} (h : xIndexByte vs = some r) : FnOk tt 246 (vs.map .v) [] r [] := by
  unfold xIndexByte at h
  split at h
  · rename_i s n
    cases h
    refine fnOk_below (fun _ _ => by kernel_rfl) fun w F us hs hg hv => ?_
    obtain ⟨u, v, rfl, rfl, rfl⟩ := vrl2 hv
    refine (Tryz.stringslite_IndexByte ⟨s.toArray⟩ n w).mono ?_
    rintro e w' ⟨rfl, rfl⟩
    exact ⟨_, rfl, Below.refl _ _, rfl⟩
  · cases h
theorem lays172M : LaysM.n172 Tryz.prog Tryz.lays172_ren := { Tryz.lays172 with
  t80 := Tryz.underlying133,
  a80 := Tryz.isAgg133,
  z80 := Tryz.sizeOf133,
  v80 := Tryz.zeroValue133,
  i0 := by kernel_rfl,
  i2 := by kernel_rfl,
  i3 := by kernel_rfl,
  i4 := by kernel_rfl,
  i5 := by kernel_rfl,
  i9 := by kernel_rfl,
  i20 := by kernel_rfl,
  i21 := by kernel_rfl,
  i37 := by kernel_rfl,
  i46 := by kernel_rfl,
  i51 := by kernel_rfl,
  i53 := by kernel_rfl,
  i75 := by kernel_rfl,
  i76 := by kernel_rfl,
  i80 := by kernel_rfl,
  i85 := by kernel_rfl,
  i127 := by kernel_rfl,
  i143 := by kernel_rfl,
  i145 := by kernel_rfl,
  i167 := by kernel_rfl,
  i168 := by kernel_rfl,
  i171 := by kernel_rfl,
  i173 := by kernel_rfl,
  i175 := by kernel_rfl,
  i210 := by kernel_rfl,
  i212 := by kernel_rfl,
  i232 := by kernel_rfl,
  i233 := by kernel_rfl,
  m15 := by kernel_rfl,
  m16 := by kernel_rfl,
  m17 := by kernel_rfl,
  m18 := by kernel_rfl,
  m19 := by kernel_rfl }
theorem lays172C : LaysC.n172 Tryz.prog Tryz.lays172_ren := { lays172M with
  c0 := by kernel_rfl,
  c2 := by kernel_rfl,
  c3 := by kernel_rfl,
  c4 := by kernel_rfl,
  c5 := by kernel_rfl,
  c9 := by kernel_rfl,
  c20 := by kernel_rfl,
  c21 := by kernel_rfl,
  c37 := by kernel_rfl,
  c46 := by kernel_rfl,
  c51 := by kernel_rfl,
  c53 := by kernel_rfl,
  c75 := by kernel_rfl,
  c76 := by kernel_rfl,
  c80 := by kernel_rfl,
  c85 := by kernel_rfl,
  c127 := by kernel_rfl,
  c143 := by kernel_rfl,
  c145 := by kernel_rfl,
  c167 := by kernel_rfl,
  c168 := by kernel_rfl,
  c171 := by kernel_rfl,
  c173 := by kernel_rfl,
  c175 := by kernel_rfl,
  c210 := by kernel_rfl,
  c212 := by kernel_rfl,
  c213 := by kernel_rfl,
  c232 := by kernel_rfl,
  c233 := by kernel_rfl }
theorem err_ok {F : Frz} {w : World} {g : Nat} (hs : Sat F w) (hg : GlR tt F) (h : lookN g glL = some .ifc) : ∃ ev, w.cell? ⟨g, 0, none⟩ = some ev ∧ (ev = .nilIface ∨ ∃ te pe, ev = .iface te pe) := by
  obtain ⟨u, t, z, h1, te, pe, rfl⟩ := hg.1 g _ h
  have h2 := hs _ _ h1
  exact ⟨.iface te pe, by simp [World.cell?, h2, Value.cells], .inr ⟨te, pe, rfl⟩⟩
theorem atoi_ok {vs : List VT} {r : DV} (h : xAtoi vs = some r) : FnOk tt 198 (vs.map .v) [] r [] := by
  unfold xAtoi at h
  split at h
  · rename_i s
    obtain ⟨hb, rfl⟩ := okB_some h
    simp only [decide_eq_true_eq] at hb
    refine fnOk_below (fun _ _ => by kernel_rfl) fun w F us hs hg hv => ?_
    obtain ⟨u, rfl, rfl⟩ := vrl1 hv
    have e1 : (⟨s.toArray⟩ : ByteArray).data.toList = s := rfl
    cases ha : Lib.atoiAll s with
    | ok v =>
      refine (Any.strconv_Atoi_ok lays172C ⟨s.toArray⟩ (by rw [size_mk]; omega) v (by rw [e1]; exact ha) w).mono ?_
      rintro e w' ⟨rfl, hw⟩
      refine ⟨_, rfl, ?_, _, rfl, _, _, rfl, rfl, _, _, rfl, ⟨rfl, rfl⟩, rfl⟩
      rcases hw with rfl | ⟨t, rfl⟩
      · exact Below.refl _ _
      · exact Lib.bytesWorld_below _ _ _
    | range =>
      obtain ⟨ev, h1, h2⟩ := err_ok (g := 3) hs hg rfl
      refine (Any.strconv_Atoi_range lays172C ⟨s.toArray⟩ (by rw [size_mk]; exact hb) (by rw [e1]; exact ha) ev w h1 h2).mono ?_
      rintro e w' ⟨k, rfl, _, _, hb⟩
      exact ⟨_, rfl, hb, _, rfl, _, _, rfl, rfl, _, _, rfl, ⟨_, _, rfl⟩, rfl⟩
    | _ =>
      obtain ⟨ev, h1, h2⟩ := err_ok (g := 2) hs hg rfl
      refine (Any.strconv_Atoi_syntax lays172C ⟨s.toArray⟩ (by rw [size_mk]; exact hb) (by rw [e1]; exact ha) ev w h1 h2).mono ?_
      rintro e w' ⟨k, rfl, _, _, hb⟩
      exact ⟨_, rfl, hb, _, rfl, _, _, rfl, rfl, _, _, rfl, ⟨_, _, rfl⟩, rfl⟩
  · cases h
set_option maxHeartbeats 2000000 in
set_option maxRecDepth 100000 in
theorem clone_run {P : Program} {ρ : Go.Shelf.Ren} (L : SlLaysE0.n41 P ρ) {i0 : TypeInfo} {z : Value} {q b : Nat} (hi : P.info? (ρ.t 23) = some i0) (hz0 : i0.zero = some z) (hz1 : i0.size = q) (hz2 : i0.bytes = b) (hzs : z.cells.size = q) (hq : 0 < q)
    (z23 : ∀ w, (Go.sizeOf (ρ.t 23)).run P w = .ok q w) (a : Addr) (n c : Nat) (news : List Value) (w : World) (hl : news.length = n * q) (hn : n ≤ maxLen) (hbig : n * b ≤ 140737488355328)
    (hc : ∀ j u, news[j]? = some u → w.cell? (a.add j) = some u) (h1 : ∀ u ∈ news, u.oneCell' = true) :
    Calls P (ρ.f 41) #[.slice (some a) n c] w fun e w' => ∃ v', e = .returned v' ∧ w'.ownsRow w.heap.size (ρ.t 23) q v' n news ∧ Below w.heap.size w w' := by
  have mixed := L.mixed; have t4 := L.t4; have a4 := L.a4; have z4 := L.z4; have v4 := L.v4; have t22 := L.t22; have a22 := L.a22; have z22 := L.z22; have v22 := L.v22
  have q22 : ∀ (w : World) (a : Option Addr) (n c n' c' : Nat), (binOp .eql (ρ.t 22) (.slice a n c) (.slice none n' c')).run P w = .ok (.bool a.isNone) w := fun w a n c n' c' => Lib.run_eql_slice_nil w _ _ a n c n' c' L.t22
  have u22 : ∀ w, Sem.run P (underlying (ρ.t 22)) w = .ok (TypeDesc.slice (ρ.t 23)) w := run_underlying t22
  have A : Aside (∀ j u, news[j]? = some u → w.cell? (a.add j) = some u) := hc
  clear hc
  obtain ⟨_, _, FG⟩ := L.f41
  go_enter FG, SlBodyN.n41_ntmps ρ
  go_wp2_with (at_builtin; refine wpList_append_own _ rfl _ _ (ρ.t 22) rfl w.heap.size (ρ.t 23) i0 z q b t22 hi hz0 hz1 hz2 hzs hq _ _ _ rfl (World.ownsRow_made w #[] 0 (Nat.le_refl _) (Nat.zero_le _) (by simp)) a n c news rfl ?qc1 ?qc2 ?qc3 ?qc4 ?qc5 ?qc6 ?_)
  case qc1 => exact hl
  case qc2 =>
    intro j u hj
    exact Lib.cell?_alloc_some _ (A.out j u hj)
  case qc3 => exact h1
  case qc4 => rw [Nat.zero_add]; exact hn
  case qc5 => rw [Nat.zero_add]; exact hbig
  case qc6 => simp
  intro v' w1 hown hgrow hnil
  go_wp2
  go_ret
  exact ⟨v', rfl, by simpa using hown, ((Below.refl _ w).alloc (Nat.le_refl _) _).grown hgrow (by simp) (by intro k hk; simp [Value.ownBlock] at hk; omega)⟩
theorem ownsRow_zero {w : World} {base : Nat} {e : TypeId} {size : Nat} {v : Value} {n : Nat} {xs : List Value} (h : w.ownsRow base e size v n xs) : w.ownsRow 0 e size v n xs := by
  obtain ⟨h1, h2⟩ := h
  refine ⟨h1, ?_⟩
  rcases h2 with h2 | ⟨g, cap, cur, e1, e2, e3⟩
  · exact .inl h2
  · exact .inr ⟨g, cap, cur, e1, Nat.zero_le _, e3⟩
theorem ownsRow_blk {w : World} {base : Nat} {e : TypeId} {size : Nat} {ad : Option Addr} {c n : Nat} {xs : List Value} {b : Nat} (h : w.ownsRow base e size (.slice ad n c) n xs) (hb : (OE.row e size ad n c xs).blk = some b) : base ≤ b := (World.ownsRow.lt h b hb).1
theorem clone_ok {P : Program} {T : Ty P} {ρ : Go.Shelf.Ren} (L : SlLaysE0.n41 P ρ) {i0 : TypeInfo} {z : Value} {q b : Nat} (hi : P.info? (ρ.t 23) = some i0) (hz0 : i0.zero = some z) (hz1 : i0.size = q) (hz2 : i0.bytes = b) (hzs : z.cells.size = q) (hq : 0 < q) (hb0 : 0 < b)
    (z23 : ∀ w, (Go.sizeOf (ρ.t 23)).run P w = .ok q w) (he : Ent P (ρ.f 41)) {F0 : Frz} {w0 : World} {X : List Nat} {W0 W : List OE} {H : DH} {F : Frz} {w : World} {az : List DV} {us : List Value}
    (hR : Rel T F0 w0 X W0 W H F w) (hc : ConcL W H F az us) : CallOk T F0 w0 X W0 W H F w (ρ.f 41) us (callC (ρ.t 23) q b H az) := by
  unfold callC
  split
  · rename_i y
    obtain ⟨u, r, rfl, hy, rfl⟩ := hc
    unfold callC2
    split
    · rename_i s hs
      split
      · rename_i hzs0
        intro zs hz
        have hap : (s.chk = true → szOk q s.ys = true) ∧ s.ys.length * b ≤ 140737488355328 ∧ zs = s.ys := by
          unfold appQ at hz
          have key : Rt.app b [] s.ys = some zs → s.ys.length * b ≤ 140737488355328 ∧ zs = s.ys := fun h => by
            unfold Rt.app at h
            split at h
            · rename_i h1; cases h; exact ⟨by simpa using h1, rfl⟩
            · cases h
          split at hz
          · rename_i hk; exact ⟨fun h => (by rw [hk] at h; cases h), key hz⟩
          · split at hz
            · rename_i hk; exact ⟨fun _ => hk, key hz⟩
            · cases hz
        obtain ⟨hk, hb, rfl⟩ := hap
        obtain ⟨ad, m, c, news, rfl, k2, k3, k4, k5⟩ := (appSrc_ok hR hy hs hk).src
        have hrow : s.ys.length = m ∧ RowR (rpV q) F news s.ys := by
          rcases k5 with ⟨_, l1, l2⟩ | ⟨l0, _, l1, l2⟩
          · exact ⟨l1, l2⟩
          · rw [hzs0] at l1 l2
            cases l2
            rw [l0]
            exact ⟨l1, rfl⟩
        obtain ⟨hm, hrw⟩ := hrow
        refine ⟨he, ?_⟩
        have fin : ∀ (w' : World) (ad' : Option Addr) (c' : Nat), Below w.heap.size w w' → w'.ownsRow w.heap.size (ρ.t 23) q (.slice ad' m c') m news → ∃ v, Ending.returned (.slice ad' m c') = .returned v ∧ ∃ W' F', Rel T F0 w0 X W0 W' (newR H (.row (ρ.t 23) q s.ys) s.rd []).H F' w' ∧ Ext W H F W' (newR H (.row (ρ.t 23) q s.ys) s.rd []).H F' ∧ ∃ d, (newR H (.row (ρ.t 23) q s.ys) s.rd []).v = some d ∧ Conc W' (newR H (.row (ρ.t 23) q s.ys) s.rd []).H F' d v := by
          intro w' ad' c' hbl how
          refine ⟨_, rfl, ?_⟩
          have hgr : w.grownBy w' none := ⟨hbl.os, hbl.tape, hbl.output, hbl.size, fun b h _ => hbl.block b h⟩
          have hrelO : RelO (W ++ [.row (ρ.t 23) q ad' m c' news]) (H ++ [nblk (.row (ρ.t 23) q s.ys)]) F (.row (ρ.t 23) q s.ys) (.row (ρ.t 23) q ad' m c' news) := ⟨_, _, _, _, rfl, hm, hrw⟩
          obtain ⟨h1, h2⟩ := hR.add hgr (e' := .row (ρ.t 23) q ad' m c' news) (ownsRow_zero how) (fun b hb => ownsRow_blk how hb) hrelO
          refine ⟨W ++ [.row (ρ.t 23) q ad' m c' news], F, ?_, ?_, .row H.length 0, ?_, ?_⟩
          · unfold newR; rw [lenK_eq, snoc_eq]; exact h1
          · unfold newR; rw [lenK_eq, snoc_eq]; exact h2
          · unfold newR; rw [lenK_eq]
          · unfold newR
            rw [lenK_eq, snoc_eq]
            exact ⟨ad', m, c', rfl, nblk (.row (ρ.t 23) q s.ys), _, by simp, by rw [hR.len]; simp, Nat.le_refl _, fun _ => ⟨ρ.t 23, q, news, rfl⟩⟩
        rcases ad with _ | a
        · refine (AnyE.slices_Clone_nil L m c w).mono ?_
          rintro e w' ⟨rfl, rfl⟩
          have hm0 : m = 0 := by
            rcases k3 with h | ⟨a2, h, _⟩
            · exact h
            · cases h
          subst hm0
          obtain rfl : news = [] := List.eq_nil_of_length_eq_zero (by rw [k2]; simp)
          exact fin _ none 0 (Below.refl _ _) (World.ownsRow_nil _ _ _ _)
        · rw [hm] at hb
          have hmx : m ≤ maxLen := by
            have : m ≤ m * b := Nat.le_mul_of_pos_right _ hb0
            unfold maxLen
            omega
          refine (clone_run L hi hz0 hz1 hz2 hzs hq z23 a m c news w k2 hmx hb ?_ k4).mono ?_
          · intro j v hj
            rcases k3 with h | ⟨a2, h, h2⟩
            · subst h
              obtain rfl : news = [] := List.eq_nil_of_length_eq_zero (by rw [k2]; simp)
              simp at hj
            · cases h; exact h2 j v hj
          · rintro e w' ⟨v', rfl, how, hbl⟩
            obtain ⟨h1, h2⟩ := how
            rcases h2 with ⟨rfl, rfl⟩ | ⟨g, cap, cur, rfl, h3⟩
            · exact fin w' none 0 hbl ⟨h1, .inl ⟨rfl, rfl⟩⟩
            · exact fin w' (some ⟨g, 0, none⟩) cap hbl ⟨h1, .inr ⟨g, cap, cur, rfl, h3⟩⟩
      · trivial
    · trivial
  · trivial
theorem look_mem {α : Type} {k : Nat} {x : α} : ∀ {l : List (Nat × α)}, lookN k l = some x → (k, x) ∈ l
  | [], h => by cases h
  | (j, y) :: l, h => by
    simp only [lookN] at h
    split at h
    · rename_i hb
      cases h
      rw [Nat.eq_of_beq_eq_true hb]; exact List.mem_cons_self
    · exact List.mem_cons_of_mem _ (look_mem h)
theorem trim_ok {vs : List VT} {r : DV} (h : xTrim vs = some r) : FnOk tt 145 (vs.map .v) [] r [] := by
  unfold xTrim at h
  split at h
  · rename_i s c
    split at h
    · rename_i t ht
      cases h
      refine fnOk_val (fun _ _ => by kernel_rfl) fun w F us hs hg hv => ?_
      obtain ⟨u, v, rfl, rfl, rfl⟩ := vrl2 hv
      refine (M.strings_Trim_ok _ s c t ht hs).mono ?_
      rintro e w' ⟨v, F', O', rfl, h1, rfl, rfl⟩
      exact ⟨_, F', rfl, h1, rfl⟩
    · cases h
  · cases h
theorem HS_new {F : Frz} {w w' : World} {b : Nat} {o : Obj} (hs : Sat F w) (hb : Below w.heap.size w w') (h0 : w.heap.size ≤ b) (ho : w'.heap[b]? = some o) : HS F w [] (fun k => if k = b then some o else F k) [] w' := by
  have hno : F b = none := by
    cases h : F b with
    | none => rfl
    | some x => have := Sat.lt hs (b := b) (by simp [h]); omega
  refine ⟨fun k x hf => ?_, fun k x hf => ?_, fun k h => ?_, by simp, by simp, List.Pairwise.nil, hb.os, hb.tape, hb.output, hb.size, fun k h _ => hb.block k h⟩
  · by_cases hk : k = b
    · subst hk; rw [if_pos rfl] at hf; cases hf; exact ho
    · rw [if_neg hk] at hf
      rw [hb.block k (Sat.lt hs (by simp [hf]))]; exact hs k x hf
  · have hk : k ≠ b := fun e => by rw [e, hno] at hf; cases hf
    simp only [if_neg hk]; exact hf
  · by_cases hk : k = b
    · exact .inr (by omega)
    · rw [if_neg hk] at h; exact .inl h
theorem Frz_new {F : Frz} {w : World} {b : Nat} {o : Obj} (hs : Sat F w) (h0 : w.heap.size ≤ b) : F.le (fun k => if k = b then some o else F k) := fun k x hf => by
  have hk : k ≠ b := fun e => by
    have := Sat.lt hs (b := k) (by simp [hf])
    omega
  simp only [if_neg hk]; exact hf
theorem values_ok {vs : List VT} {r : DV} (h : xValues vs = some r) : FnOk tt 87 (vs.map .v) [] r [] := by
  unfold xValues at h
  split at h
  · rename_i xs
    cases h
    refine fnOk_val (fun _ _ => by kernel_rfl) fun w F us hs hg hv => ?_
    obtain ⟨u, rfl, hu⟩ := vrl1 hv
    obtain ⟨a, m, n, rfl, h1⟩ := hu
    have hu : VR F (.sl xs) (.slice a m n) := ⟨a, m, n, rfl, h1⟩
    refine (Tryz.values_calls a m n w).mono ?_
    rintro x w' ⟨rfl, rfl⟩
    have hle := Frz_new (o := .cells #[.slice a m n] 30) hs (Nat.le_refl _)
    refine ⟨_, _, rfl, HS_new hs ((Below.refl _ w).alloc (Nat.le_refl _) _) (Nat.le_refl _) (World.alloc_heap_new w _), ?_⟩
    exact ⟨[], [_], rfl, rfl, _, [], rfl, ⟨w.heap.size, 0, .agg #[.slice a m n], ⟨[.slice a m n], rfl, ⟨_, [], rfl, hu.mono hle, rfl⟩, rfl⟩, ⟨#[.slice a m n], _, _, if_pos rfl, by simp [Value.cells]⟩, rfl⟩, rfl⟩
  · cases h
theorem intsQ_ns : ∀ {xs : List VT} {l : List Int}, intsQ xs = some l → xs = l.map (VT.int .i64)
  | [], l, h => by cases h; rfl
  | .int .i64 x :: xs, l, h => by
    unfold intsQ at h
    split at h
    · rename_i r hr
      cases h
      rw [intsQ_ns hr]; rfl
    · cases h
  | .bool _ :: _, _, h => by simp [intsQ] at h
  | .str _ :: _, _, h => by simp [intsQ] at h
  | .agg _ :: _, _, h => by simp [intsQ] at h
  | .sl _ :: _, _, h => by simp [intsQ] at h
  | .el _ _ :: _, _, h => by simp [intsQ] at h
  | .clo _ _ _ :: _, _, h => by simp [intsQ] at h
  | .val _ :: _, _, h => by simp [intsQ] at h
  | .ifc :: _, _, h => by simp [intsQ] at h
  | .ifv _ _ :: _, _, h => by simp [intsQ] at h
  | .int .i8 _ :: _, _, h => by simp [intsQ] at h
  | .int .i16 _ :: _, _, h => by simp [intsQ] at h
  | .int .i32 _ :: _, _, h => by simp [intsQ] at h
  | .int .u8 _ :: _, _, h => by simp [intsQ] at h
  | .int .u16 _ :: _, _, h => by simp [intsQ] at h
  | .int .u32 _ :: _, _, h => by simp [intsQ] at h
  | .int .u64 _ :: _, _, h => by simp [intsQ] at h
theorem vrx_ints {F : Frz} : ∀ {l : List Int} {us : List Value}, us = l.map (Value.int .i64) → VRX F 1 (l.map (VT.int .i64)) us
  | [], _, h => h
  | x :: l, _, h => by subst h; exact ⟨.int .i64 x, _, rfl, ⟨rfl, rfl⟩, rfl, vrx_ints rfl⟩
theorem ints_vrx {F : Frz} {q : Nat} : ∀ {l : List Int} {us : List Value}, VRX F q (l.map (VT.int .i64)) us → us = l.map (Value.int .i64)
  | [], _, h => h
  | x :: l, _, ⟨u, r, h1, h2, h3, h4⟩ => by
    cases h3
    rw [h1, ints_vrx h4]; rfl
theorem sorted_ok {vs : List VT} {r : DV} (h : xSorted vs = some r) : FnOk tt 86 (vs.map .v) [] r [] := by
  unfold xSorted at h
  split at h
  · rename_i f xs
    split at h
    · rename_i l hf hl
      obtain ⟨hlen, rfl⟩ := okB_some h
      have hlen := of_decide_eq_true hlen
      obtain rfl := Nat.eq_of_beq_eq_true hf
      obtain rfl := intsQ_ns hl
      refine fnOk_val (fun _ _ => by kernel_rfl) fun w F us hs hg hv => ?_
      obtain ⟨u, rfl, ps, cs, rfl, rfl, hcs⟩ := vrl1 hv
      obtain ⟨u, rfl, b, p, u2, hu2, hfc, rfl⟩ := vrl1 hcs
      obtain ⟨cs2, rfl, hc2, _⟩ := hu2
      obtain ⟨u3, rfl, a, m, n, rfl, h1, h2, h3, h4⟩ := vrl1 hc2
      have hA : Tryz.AtBox ⟨b, p + 0, none⟩ n a l w := by
        refine ⟨?_, ?_, ?_, hlen⟩
        · obtain ⟨c, t, z, h5, _⟩ := hfc
          exact Sat.lt hs (by simp [h5])
        · have := hfc.cell hs (j := 0) (v := .slice a m n) rfl
          rw [this, ← h1, List.length_map]
        · intro i x hx
          rcases h4 with h4 | ⟨b2, o2, q2, us2, rfl, hf2, hx2⟩
          · rw [List.map_eq_nil_iff] at h4
            subst h4; simp at hx
          · obtain rfl := ints_vrx hx2
            have ea : (⟨b2, o2, none⟩ : Addr).add i = ⟨b2, o2 + i, none⟩ := by simp [Addr.add]
            refine ⟨_, rfl, ?_, ?_⟩ <;> rw [ea]
            · obtain ⟨c, t, z, h5, _⟩ := hf2
              exact Sat.lt hs (b := b2) (by simp [h5])
            · exact hf2.cell hs (j := i) (v := .int .i64 x) (by rw [List.getElem?_map, hx]; rfl)
      refine (Tryz.sorted_calls _ n a l w hA).mono ?_
      rintro x w' ⟨v, rfl, how, hnil, hb⟩
      rcases how.2 with ⟨rfl, h0⟩ | ⟨g, cap, cur, rfl, hbase, hgb, r1, r2, r3, r4⟩
      · obtain rfl : l = [] := List.eq_nil_of_length_eq_zero h0
        exact ⟨_, F, rfl, HS_below hs hb, none, 0, 0, rfl, by simp, by simp, by simp [maxLen], .inl (by simp)⟩
      · refine ⟨_, _, rfl, HS_new hs hb hbase hgb, _, _, _, rfl, by simp, by simpa using r1, r2, .inr ⟨g, 0, 1, (l.mergeSort (fun x y => decide (x ≤ y))).map (Value.int .i64), rfl, ⟨cur, _, _, if_pos rfl, ?_⟩, vrx_ints rfl⟩⟩
        rw [List.drop_zero, ← show cur.toList.take (l.length * 1) = _ from r4]
        exact List.take_prefix _ _
    · cases h
  · cases h
theorem ext_all {f : FuncId} {g : List VT → Option DV} {vs : List VT} {r : DV} (hf : tt.ext f = some g) (h : g vs = some r) : FnOk tt f (vs.map .v) [] r [] := by
  have hm : (f, g) ∈ extL := look_mem hf
  simp only [extL, List.mem_cons, Prod.mk.injEq, List.not_mem_nil, or_false] at hm
  rcases hm with ⟨rfl, rfl⟩ | ⟨rfl, rfl⟩ | ⟨rfl, rfl⟩ | ⟨rfl, rfl⟩ | ⟨rfl, rfl⟩ | ⟨rfl, rfl⟩ | ⟨rfl, rfl⟩ | ⟨rfl, rfl⟩ | ⟨rfl, rfl⟩ | ⟨rfl, rfl⟩
  · exact itoa_ok h
  · exact join_ok h
  · exact repeat_ok h
  · exact indexByte_ok h
  · exact cutPrefix_ok h
  · exact islite_ok h
  · exact atoi_ok h
  · exact trim_ok h
  · exact values_ok h
  · exact sorted_ok h
def renI : Go.Shelf.Ren := ⟨fun | 41 => 72 | n => n, fun | 22 => 30 | 23 => 3 | n => n, fun | n => n⟩
theorem laysI : SlLaysE0.n41 Tryz.prog renI := {
  mixed := by kernel_rfl
  f41 := ⟨Tryz.f72.name, by kernel_rfl, Tryz.func72.trans (congrArg some (by kernel_rfl))⟩
  t4 := Tryz.underlying4
  a4 := Tryz.isAgg4
  z4 := Tryz.sizeOf4
  v4 := Tryz.zeroValue4
  t22 := Tryz.underlying30
  a22 := Tryz.isAgg30
  z22 := Tryz.sizeOf30
  v22 := Tryz.zeroValue30 }
set_option maxRecDepth 100000 in
theorem infoI : ∃ i, Tryz.prog.info? 3 = some i ∧ i.zero = some (.int .i64 0) ∧ i.size = 1 ∧ i.bytes = 8 := info_parts (show (Tryz.prog.info? 3).map (fun i => (i.zero, i.size, i.bytes)) = some (some (.int .i64 0), 1, 8) by kernel_rfl)
theorem clone_all {f : FuncId} {el q b : Nat} (hf : tt.cl f = some (el, q, b)) {F0 : Frz} {w0 : World} {X : List Nat} {W0 W : List OE} {H : DH} {F : Frz} {w : World} {az : List DV} {us : List Value}
    (hR : Rel tt F0 w0 X W0 W H F w) (hc : ConcL W H F az us) : CallOk tt F0 w0 X W0 W H F w f us (callC el q b H az) := by
  have hm : memN f clL = true := by
    cases h : memN f clL with
    | true => rfl
    | false =>
      have : clT Tryz.prog (fun f => memN f clL) f = some (el, q, b) := hf
      simp only [clT, h] at this
      cases this
  have : f = 72 := by
    simp only [clL, memN] at hm
    split at hm
    · rename_i h; exact Nat.eq_of_beq_eq_true h
    · cases hm
  subst this
  have h2 : tt.cl 72 = some (3, 1, 8) := by kernel_rfl
  rw [h2] at hf
  cases hf
  obtain ⟨i, h3, h4, h5, h6⟩ := infoI
  exact clone_ok laysI h3 h4 h5 h6 rfl (by decide) (by decide) Tryz.sizeOf3 (fun _ _ => by kernel_rfl) hR hc
theorem sp_all {f : FuncId} {k : Bool} {tb te : TypeId} (hf : tt.sp f = some (k, tb, te)) {F0 : Frz} {w0 : World} {X : List Nat} {W0 W : List OE} {H : DH} {F : Frz} {w : World} {az : List DV} {us : List Value}
    (hR : Rel tt F0 w0 X W0 W H F w) (hc : ConcL W H F az us) : CallOk tt F0 w0 X W0 W H F w f us (spO k tb te H az) := by
  have hf : spL f = some (k, tb, te) := hf
  unfold spL at hf
  split at hf
  · rename_i h
    cases hf
    exact sp_check (Nat.eq_of_beq_eq_true h) hR hc
  · split at hf
    · rename_i h
      cases hf
      obtain rfl := Nat.eq_of_beq_eq_true h
      exact sp_string Tryz.lays169 Tryz.Builder_Extra_169 (fun _ _ => by kernel_rfl) hR hc
    · cases hf
theorem libOk : LibOk tt := ⟨ext_all, clone_all, sp_all⟩
end Go.Proofs.YteekaonhdckicaaGreatDoor.Dp

namespace Go.Proofs.YteekaonhdckicaaGreatDoor.Wrap
open Go Go.ChangeShapes Go.WideShapes Go.ChangeAt Go.RowKit Rt
theorem own : ownKnob Tryz.prog.godebug = none := by kernel_rfl
theorem laidOut : laidOutB Tryz.prog = true := by kernel_rfl
def all (W : World) : Frz := fun b => W.heap[b]?
theorem all_sat (W : World) : Sat (all W) W := fun _ _ h => h
section
variable {H : Type} {enc : TypeId × Value → H} {P : Program}
theorem trodAll_stays (hl : laidOutB P = true) {W W' : World} (hb : Below W.heap.size W W') {sp : Nat → Bool} :
    ∀ {ts : List TypeId} {vs : List Value} {ds : List (DataW H)} {ps : List MemPlace}, (∀ t ∈ ts, P.readableRec t = true ∧ t < P.types.size) → DataW.TrodAll enc P W 0 (fun _ => true) true ts vs ds ps →
      (∀ x ∈ ps, x.block < W.heap.size) → (∀ x ∈ ps, sp x.block = true) → DataW.TrodAll enc P W' 0 sp true ts vs ds ps
  | [], _, _, _, _, h, _, _ => by
    obtain ⟨rfl, rfl, rfl⟩ := trodAll_nil h
    exact trodAll_mk0
  | t :: ts, _, _, _, ht, h, hlt, hsp => by
    obtain ⟨v, vs, d, ds, p, q, rfl, rfl, rfl, h1, h2⟩ := trodAll_cons h
    have h3 := ht t (by simp)
    exact trodAll_cons_mk (WideElems.Trod_stays hl h3.1 h3.2 h1 (fun x hx => hb.same (hlt x (by simp [hx]))) (fun x hx => hsp x (by simp [hx])))
      (trodAll_stays hl hb (fun t' ht' => ht t' (by simp [ht'])) h2 (fun x hx => hlt x (by simp [hx])) (fun x hx => hsp x (by simp [hx])))
theorem post_true (hl : laidOutB P = true) {f : Func} {s : ChangeSpec} {W W' : World} {args : Array Value} {ds gs : List (DataW H)} {before : List MemPlace} {tb : TypeId}
    (hts : ∀ t ∈ f.params.toList, P.readableRec t = true ∧ t < P.types.size) (hv : s.vars = []) (hrt : f.resultTypes = #[tb]) (htb : P.underlying tb = some .bool)
    (hs : s.fn H (ds ++ gs) = { results := [.lit (.bool true)], args := ds })
    (hW : DataW.Whole enc P f.params.toList s.vars false W args.toList ds gs before) (hb : Below W.heap.size W W') : s.post enc P f false true false false W args (.bool true) W' := by
  have hlt : ∀ x ∈ before, x.block < W.heap.size := fun x hx => by simpa using hW.lt x hx
  have hW' := hW
  obtain ⟨p, q, hA, hV, rfl, hz, hn⟩ := hW
  rw [hv] at hV
  obtain ⟨rfl, rfl⟩ := trodVars_none hV
  simp only [List.append_nil] at *
  have harg : ∀ sp : Nat → Bool, (∀ x ∈ p, sp x.block = true) → DataW.TrodAll enc P W' 0 sp true f.params.toList args.toList ds p := fun sp hsp => trodAll_stays hl hb hts hA hlt hsp
  have hres : ∀ (b : Nat) (sp : Nat → Bool) (hd : Bool), DataW.TrodAll enc P W' b sp hd f.resultTypes.toList ((Value.bool true).resultList f.resultTypes.size) [.lit (.bool true)] [] := by
    intro b sp hd
    rw [hrt]
    exact trodAll_cons_mk (shut_bool htb true) trodAll_mk0
  refine ⟨ds, [], p, [], p, [], hW', ?_, ?_, ?_, ?_, fun h => by cases h⟩
  · simp only [List.append_nil, hs]; exact hres _ _ _
  · simp only [List.append_nil, hs]; exact harg _ (fun x hx => by simpa using hlt x hx)
  · simp only [List.append_nil, hs, hv]; exact rfl
  · exact hb.frame _
end
end Go.Proofs.YteekaonhdckicaaGreatDoor.Wrap

namespace Go.Proofs.YteekaonhdckicaaGreatDoor.Wrap
open Go Go.ChangeShapes Go.WideShapes Go.ChangeAt Go.RowKit Rt
def Opens (P : Program) (W : World) (T : TypeId) {α : Type} (r : Rp α) (ok : α → Prop) : Prop :=
  ∀ {H : Type} (enc : TypeId × Value → H) (fuel : Nat) (cs : List Value) (x : DataW H × List MemPlace), DataW.trod enc P W 0 (fun _ => true) true fuel T cs = some x → ∃ y, r.R (all W) cs y ∧ ok y
section
variable {P : Program} {W : World} {T : TypeId}
theorem opens_int {k : IntKind} (ht : P.underlying T = some (.int k)) : Opens P W T (Rp.int k) (fun z => k.min ≤ z ∧ z ≤ k.max) := by
  intro H enc fuel cs x h
  obtain ⟨n, rfl, _, hw⟩ := DataW.trod_int ht h
  exact ⟨n, rfl, by simpa [Lit.wf] using hw⟩
theorem opens_bool (ht : P.underlying T = some .bool) : Opens P W T Rp.bool (fun _ => True) := by
  intro H enc fuel cs x h
  obtain ⟨b, rfl, _⟩ := DataW.trod_bool ht h
  exact ⟨b, rfl, trivial⟩
theorem opens_str (ht : P.underlying T = some .string) : Opens P W T Rp.str (fun s => s.length ≤ maxLen) := by
  intro H enc fuel cs x h
  obtain ⟨s, rfl, _, hs⟩ := DataW.trod_string ht h
  exact ⟨s.data.toList, by rw [vs_of]; rfl, by simpa using hs⟩
theorem row_of {α : Type} {r : Rp α} {F : Frz} {k : Nat} (hk : r.k = k) : ∀ (n : Nat) (C : Nat → List Value) (X : Nat → α), (∀ i, i < n → r.R F (C i) (X i)) → RowR r F ((List.range n).flatMap C) ((List.range n).map X)
  | 0, _, _, _ => by simp [RowR]
  | n + 1, C, X, h => by
    rw [List.range_succ, List.flatMap_append, List.map_append]
    refine RowR.append ?_ (row_of hk n C X fun i hi => h i (by omega))
    simpa [RowR] using h n (by omega)
theorem flat_len {k : Nat} : ∀ (n : Nat) (C : Nat → List Value), (∀ i, i < n → (C i).length = k) → ((List.range n).flatMap C).length = n * k
  | 0, _, _ => by simp
  | n + 1, C, h => by
    rw [List.range_succ, List.flatMap_append, List.length_append, flat_len n C fun i hi => h i (by omega)]
    simp [h n (by omega), Nat.add_mul]
theorem flat_get {k : Nat} : ∀ (n : Nat) (C : Nat → List Value), (∀ i, i < n → (C i).length = k) → ∀ i j, i < n → j < k → ((List.range n).flatMap C)[i * k + j]? = (C i)[j]?
  | 0, _, _, _, _, hi, _ => by omega
  | n + 1, C, h, i, j, hi, hj => by
    have hl := flat_len n C fun i hi => h i (by omega)
    rw [List.range_succ, List.flatMap_append]
    by_cases e : i = n
    · subst e
      rw [List.getElem?_append_right (by omega), hl]
      simp
    · have h1 : i * k + j < n * k := by
        have h2 : (i + 1) * k ≤ n * k := Nat.mul_le_mul_right _ (by omega)
        rw [Nat.add_mul] at h2; omega
      rw [List.getElem?_append_left (by omega)]
      exact flat_get n C (fun i hi => h i (by omega)) i j (by omega) hj
theorem fc_of {b o : Nat} {l : List Value} (h : ∀ i v, l[i]? = some v → W.cell? ⟨b, o + i, none⟩ = some v) (h0 : l ≠ []) : FC (all W) b o l := by
  have h1 := h 0 (l.head h0) (by rw [← List.head?_eq_getElem?, List.head?_eq_some_head h0])
  unfold World.cell? at h1
  cases hb : W.heap[b]? with
  | none => simp [hb] at h1
  | some ob =>
    cases ob with
    | cells cells t fz =>
      refine ⟨cells, t, fz, hb, ?_⟩
      rw [List.prefix_iff_getElem?]
      intro i hi
      have h2 := h i l[i] (by simp [hi])
      simp only [World.cell?, hb] at h2
      rw [List.getElem?_drop, Array.getElem?_toList]
      simpa using h2
    | _ => simp [hb] at h1
theorem add_add (a : Addr) (i j : Nat) : (a.add i).add j = a.add (i + j) := by
  unfold Addr.add
  by_cases hi : i = 0
  · subst hi; simp
  · by_cases hj : j = 0
    · subst hj; simp
    · simp [hi, hj, Nat.add_assoc]
theorem opens_slice {e : TypeId} {α : Type} {r : Rp α} {ok : α → Prop} (ht : P.underlying T = some (.slice e)) (hc : P.cellsOf e = r.k) (hp : 0 < r.k) (he : Opens P W e r ok) :
    Opens P W T (Rp.sl r) (fun l => l.length ≤ maxLen ∧ ∀ x ∈ l, ok x) := by
  intro H enc fuel cs x h
  rcases Go.Deep.open_slice ht h with ⟨rfl, _⟩ | ⟨a, len, cap, m, n, D, Pl, rfl, _, hl, hm, hmm, _, hx⟩
  · exact ⟨[], ⟨none, 0, 0, rfl, SlR.nil r _⟩, by simp [maxLen], by simp⟩
  simp only [if_true] at hmm
  have hx' : ∀ i, i < len → ∃ q : List Value × α, W.cells? 0 (a.add (i * P.cellsOf e)) (P.cellsOf e) = some q.1 ∧ r.R (all W) q.1 q.2 ∧ ok q.2 := by
    intro i hi
    obtain ⟨cs', h1, h2⟩ := hx i (by omega)
    obtain ⟨y, h3, h4⟩ := he enc _ _ _ h2
    exact ⟨(cs', y), h1, h3, h4⟩
  by_cases h0 : len = 0
  · subst h0
    exact ⟨[], ⟨some a, 0, cap, rfl, rfl, by simp, hm, .inl rfl⟩, by simp [maxLen], by simp⟩
  obtain ⟨d, _⟩ := hx' 0 (by omega)
  have hne : Nonempty (List Value × α) := ⟨d⟩
  obtain ⟨Q, hQ⟩ : ∃ Q : Nat → List Value × α, ∀ i, i < len → W.cells? 0 (a.add (i * P.cellsOf e)) (P.cellsOf e) = some (Q i).1 ∧ r.R (all W) (Q i).1 (Q i).2 ∧ ok (Q i).2 :=
    ⟨fun i => if hi : i < len then Classical.choose (hx' i hi) else d, fun i hi => by simp only [hi, dif_pos]; exact Classical.choose_spec (hx' i hi)⟩
  have hlen : ∀ i, i < len → (Q i).1.length = r.k := fun i hi => r.len (hQ i hi).2.1
  have hrow := row_of (r := r) rfl len (fun i => (Q i).1) (fun i => (Q i).2) fun i hi => (hQ i hi).2.1
  have hcell : ∀ i j, i < len → j < r.k → W.cell? (a.add (i * r.k + j)) = (Q i).1[j]? := by
    intro i j hi hj
    have h1 := (World.cells?_some (hQ i hi).1).2.2 j (by rw [hc]; exact hj)
    rw [hc] at h1
    rwa [add_add] at h1
  have hspot : a.spot = none := by
    have h1 := hcell 0 0 (by omega) hp
    have h2 := hlen 0 (by omega)
    rw [List.getElem?_eq_getElem (by omega)] at h1
    have e0 : a.add (0 * r.k + 0) = a := by simp [Addr.add]
    rw [e0] at h1
    exact World.cell?_spot h1
  obtain ⟨b, o, spot⟩ := a
  simp only at hspot
  subst hspot
  have hflen := flat_len len (fun i => (Q i).1) hlen
  refine ⟨(List.range len).map fun i => (Q i).2, ⟨some ⟨b, o, none⟩, len, cap, by simp, by simp, by simpa using hl, hm, .inr ⟨b, o, _, rfl, fc_of ?_ ?_, hrow⟩⟩, by simpa using Nat.le_trans hl hm, ?_⟩
  · intro i v hv
    have hi : i < len * r.k := by rw [← hflen]; exact (List.getElem?_eq_some_iff.1 hv).1
    have h1 : i / r.k < len := Nat.div_lt_of_lt_mul (by rw [Nat.mul_comm]; exact hi)
    have h2 : i % r.k < r.k := Nat.mod_lt _ hp
    have h3 : i / r.k * r.k + i % r.k = i := Nat.div_add_mod' i r.k
    have h4 := hcell _ _ h1 h2
    have h5 := flat_get len (fun i => (Q i).1) hlen _ _ h1 h2
    rw [h3] at h4 h5
    rw [h5] at hv
    rw [hv, Go.WideShapes.add_plain] at h4
    exact h4
  · intro e0
    have := congrArg List.length e0
    rw [hflen] at this
    have : 0 < len * r.k := Nat.mul_pos (by omega) hp
    simp only [List.length_nil] at *
    omega
  · intro x hx
    obtain ⟨i, hi, rfl⟩ := List.mem_map.1 hx
    exact (hQ i (List.mem_range.1 hi)).2.2
theorem cut_step (cs : List Value) (o k : Nat) : cs.drop o = (cs.drop o).take k ++ cs.drop (o + k) := by
  rw [← List.drop_drop, List.take_append_drop]
theorem open_arg {α : Type} {r : Rp α} {ok : α → Prop} (ho : Opens P W T r ok) {H : Type} {enc : TypeId × Value → H} {v : Value} {d : DataW H} {ps : List MemPlace} (h : DataW.Trod enc P W 0 (fun _ => true) true T v d ps) : ∃ y, r.R (all W) v.cells.toList y ∧ ok y := by
  obtain ⟨fuel, hf⟩ := h
  exact ho enc _ _ _ hf
end
end Go.Proofs.YteekaonhdckicaaGreatDoor.Wrap

namespace Go.Proofs.YteekaonhdckicaaGreatDoor.Dp
open Go Go.ChangeShapes Go.WideShapes Go.ChangeAt Go.RowKit Go.Proofs.YteekaonhdckicaaGreatDoor.Rt Go.Proofs.YteekaonhdckicaaGreatDoor.Wrap
set_option linter.unusedVariables false
inductive Sh where
  | int (k : IntKind)
  | bool
  | str
  | sl (e : Sh)
  | st (fs : List Sh)
mutual
def Sh.cells : Sh → Nat
  | .st fs => shCells fs
  | _ => 1
def shCells : List Sh → Nat
  | [] => 0
  | s :: l => s.cells + shCells l
 end
mutual
def Fit : Sh → VT → Prop
  | .int k, x => ∃ z, x = .int k z ∧ k.min ≤ z ∧ z ≤ k.max
  | .bool, x => ∃ b, x = .bool b
  | .str, x => ∃ l : Bs, x = .str l ∧ l.length ≤ maxLen
  | .sl e, x => ∃ xs, x = .sl xs ∧ xs.length ≤ maxLen ∧ ∀ y ∈ xs, Fit e y
  | .st fs, x => ∃ l, x = .agg l ∧ FitL fs l
def FitL : List Sh → List VT → Prop
  | [], l => l = []
  | s :: ss, l => ∃ x r, l = cellsV x ++ r ∧ Fit s x ∧ FitL ss r
 end
section
variable (P : Program)
mutual
def shOk : Sh → TypeId → Bool
  | .int k, t => match P.underlying t with
    | some (.int k') => decide (k' = k)
    | _ => false
  | .bool, t => match P.underlying t with
    | some .bool => true
    | _ => false
  | .str, t => match P.underlying t with
    | some .string => true
    | _ => false
  | .sl e, t => match P.underlying t with
    | some (.slice e') => Nat.beq (P.cellsOf e') e.cells && Nat.blt 0 e.cells && shOk e e'
    | _ => false
  | .st ss, t => match P.underlying t with
    | some (.struct fs) => Nat.beq (P.cellsOf t) (shCells ss) && shOkL ss fs.toList 0
    | _ => false
def shOkL : List Sh → List Field → Nat → Bool
  | [], [], _ => true
  | s :: ss, f :: fs, o => Nat.beq f.offset o && Nat.beq (P.cellsOf f.type) s.cells && shOk s f.type && shOkL ss fs (o + s.cells)
  | _, _, _ => false
 end
end
section
variable {P : Program} {W : World}
theorem opens_of {T : TypeId} {q : Nat} {ok : VT → Prop} (h : ∀ {H : Type} (enc : TypeId × Value → H) (fuel : Nat) (cs : List Value) (x : DataW H × List MemPlace), DataW.trod enc P W 0 (fun _ => true) true fuel T cs = some x → ∃ (y : VT) (u : Value), cs = u.cells.toList ∧ u.cells.size = q ∧ VR (all W) y u ∧ ok y) : Opens P W T (rpV q) ok := by
  intro H enc fuel cs x hx
  obtain ⟨y, u, h1, h2, h3, h4⟩ := h enc fuel cs x hx
  exact ⟨y, ⟨u, h1, ⟨h2, vr_ones h3⟩, h3⟩, h4⟩
mutual
theorem opens_sh : ∀ {s : Sh} {T : TypeId}, shOk P s T = true → Opens P W T (rpV s.cells) (Fit s)
  | .int k, T, h => by
    unfold shOk at h
    split at h
    · rename_i k' ht
      obtain rfl := of_decide_eq_true h
      refine opens_of fun enc fuel cs x hx => ?_
      obtain ⟨n, rfl, h3⟩ := opens_int ht enc fuel cs x hx
      exact ⟨.int k' n, .int k' n, rfl, rfl, rfl, n, rfl, h3⟩
    · cases h
  | .bool, T, h => by
    unfold shOk at h
    split at h
    · rename_i ht
      refine opens_of fun enc fuel cs x hx => ?_
      obtain ⟨n, rfl, h3⟩ := opens_bool ht enc fuel cs x hx
      exact ⟨.bool n, .bool n, rfl, rfl, rfl, n, rfl⟩
    · cases h
  | .str, T, h => by
    unfold shOk at h
    split at h
    · rename_i ht
      refine opens_of fun enc fuel cs x hx => ?_
      obtain ⟨n, rfl, h3⟩ := opens_str ht enc fuel cs x hx
      exact ⟨.str n, vs n, rfl, rfl, rfl, n, rfl, h3⟩
    · cases h
  | .sl e, T, h => by
    unfold shOk at h
    split at h
    · rename_i e' ht
      simp only [Bool.and_eq_true] at h
      obtain ⟨⟨h1, h2⟩, h3⟩ := h
      have h1 := Nat.eq_of_beq_eq_true h1
      refine opens_of fun enc fuel cs x hx => ?_
      obtain ⟨xs, ⟨a, n, c, rfl, h4⟩, h5, h6⟩ := opens_slice ht (r := rpV e.cells) (by rw [h1]; rfl) (Nat.le_of_ble_eq_true h2) (opens_sh h3) enc fuel cs x hx
      exact ⟨.sl xs, .slice a n c, rfl, rfl, vr_sl.2 ⟨a, n, c, _, rfl, h4⟩, xs, rfl, h5, h6⟩
    · cases h
  | .st ss, T, h => by
    unfold shOk at h
    split at h
    · rename_i fs ht
      simp only [Bool.and_eq_true] at h
      obtain ⟨h1, h2⟩ := h
      have h1 := Nat.eq_of_beq_eq_true h1
      refine opens_of fun enc fuel cs x hx => ?_
      obtain ⟨xs, n, _, _, hl, hn, hf⟩ := DataW.trod_struct ht hx
      obtain ⟨l, h3, h4, h5⟩ := opens_shL (enc := enc) (cs := cs) (xs := xs) (n := n) (i := 0) h2 (by rw [hl, h1]; omega) (fun i f hi => by
        have hi' : fs[i]? = some f := by rw [← Array.getElem?_toList]; simpa using hi
        have hlt : i < xs.length := by rw [hn]; exact (Array.getElem?_eq_some_iff.1 hi').1
        have := hf i f hi'
        rw [List.getElem?_eq_getElem hlt] at this
        exact ⟨_, this⟩)
      rw [List.drop_zero] at h3 h5
      exact ⟨.agg l, .agg cs.toArray, rfl, by show cs.toArray.size = _; rw [List.size_toArray, hl, h1]; rfl, ⟨cs, rfl, h3, h5⟩, l, rfl, h4⟩
    · cases h
theorem opens_shL : ∀ {ss : List Sh} {fs : List Field} {o i : Nat} {H : Type} {enc : TypeId × Value → H} {n : Nat} {cs : List Value} {xs : List (DataW H × List MemPlace)}, shOkL P ss fs o = true → cs.length = o + shCells ss →
    (∀ (j : Nat) (f : Field), fs[j]? = some f → ∃ x, DataW.trod enc P W 0 (fun _ => true) true n f.type ((cs.drop f.offset).take (P.cellsOf f.type)) = some x) → ∃ l, VRL (all W) l (cs.drop o) ∧ FitL ss l ∧ (cs.drop o).all Value.oneCell' = true
  | [], [], o, i, H, enc, n, cs, xs, _, hl, _ => ⟨[], by show cs.drop o = []; exact List.drop_of_length_le (by rw [hl]; exact Nat.le_refl _), rfl, by rw [List.drop_of_length_le (by rw [hl]; exact Nat.le_refl _)]; rfl⟩
  | s :: ss, f :: fs, o, i, H, enc, n, cs, xs, h, hl, hf => by
    unfold shOkL at h
    simp only [Bool.and_eq_true] at h
    obtain ⟨⟨⟨h1, h2⟩, h3⟩, h4⟩ := h
    have h1 := Nat.eq_of_beq_eq_true h1
    have h2 := Nat.eq_of_beq_eq_true h2
    obtain ⟨x, hx⟩ := hf 0 f rfl
    rw [h1, h2] at hx
    obtain ⟨y, ⟨u, e1, ⟨e2, e3⟩, e4⟩, e5⟩ := opens_sh h3 enc n _ x hx
    have hl' : cs.length = o + s.cells + shCells ss := by rw [hl]; simp only [shCells]; omega
    obtain ⟨l, k1, k2, k3⟩ := opens_shL (i := i) (xs := xs) h4 hl' (fun j f hj => hf (j + 1) f (by simpa using hj))
    have hd : cs.drop o = u.cells.toList ++ cs.drop (o + s.cells) := by rw [← e1]; exact cut_step cs o s.cells
    refine ⟨cellsV y ++ l, ?_, ⟨y, l, rfl, e5, k2⟩, ?_⟩
    · rw [hd]
      have app : ∀ {l1 l2 : List VT} {c1 c2 : List Value}, VRL (all W) l1 c1 → VRL (all W) l2 c2 → VRL (all W) (l1 ++ l2) (c1 ++ c2) := by
        intro l1
        induction l1 with
        | nil => intro l2 c1 c2 p1 p2; cases p1; exact p2
        | cons z l1 ih =>
          rintro l2 c1 c2 ⟨v, r, rfl, p1, p3⟩ p2
          exact ⟨v, r ++ c2, rfl, p1, ih p3 p2⟩
      exact app (vr_cells e4) k1
    · rw [hd, List.all_append, k3, e3]; rfl
  | [], _ :: _, _, _, _, _, _, _, _, h, _, _ => by unfold shOkL at h; cases h
  | _ :: _, [], _, _, _, _, _, _, _, h, _, _ => by unfold shOkL at h; cases h
 end
theorem open_sh {s : Sh} {T : TypeId} (hs : shOk P s T = true) {H : Type} {enc : TypeId × Value → H} {v : Value} {d : DataW H} {ps : List MemPlace} (h : DataW.Trod enc P W 0 (fun _ => true) true T v d ps) : ∃ (y : VT) (u : Value), v.cells = u.cells ∧ VR (all W) y u ∧ Fit s y := by
  obtain ⟨y, ⟨u, h1, _, h2⟩, h3⟩ := open_arg (opens_sh hs) h
  exact ⟨y, u, by rw [← Array.toArray_toList (xs := v.cells), h1], h2, h3⟩
theorem sh_val {s : Sh} {T : TypeId} (hs : shOk P s T = true) {re : Reach} {b0 : Nat} {v u : Value} {F : Frz} {y : VT} (hv : Value.okWide P W re b0 T v) (hr : VR F y u) (hf : Fit s y) (hc : v.cells = u.cells) : u = v := by
  cases s with
  | int k =>
    unfold shOk at hs
    split at hs
    · rename_i k' ht
      obtain ⟨n, rfl⟩ := okWide_int ht hv
      obtain ⟨z, rfl, _⟩ := hf
      cases hr
      have : #[Value.int k' n] = #[Value.int k z] := hc
      simpa using this.symm
    · cases hs
  | bool =>
    unfold shOk at hs
    split at hs
    · rename_i ht
      obtain ⟨n, rfl⟩ := okWide_bool ht hv
      obtain ⟨z, rfl⟩ := hf
      cases hr
      have : #[Value.bool n] = #[Value.bool z] := hc
      simpa using this.symm
    · cases hs
  | str =>
    unfold shOk at hs
    split at hs
    · rename_i ht
      obtain ⟨n, rfl⟩ := okWide_string ht hv
      obtain ⟨z, rfl, _⟩ := hf
      have hr : u = vs z := hr
      subst hr
      have : #[Value.string n] = #[vs z] := hc
      simpa using this.symm
    · cases hs
  | sl e =>
    unfold shOk at hs
    split at hs
    · rename_i e' ht
      obtain ⟨a, m, c, rfl⟩ := okWide_slice ht hv
      obtain ⟨xs, rfl, _⟩ := hf
      obtain ⟨a', m', c', rfl, _⟩ := hr
      have : #[Value.slice a m c] = #[Value.slice a' m' c'] := hc
      simpa using this.symm
    · cases hs
  | st fs =>
    unfold shOk at hs
    split at hs
    · rename_i fs' ht
      obtain ⟨cs, rfl, _⟩ := okWide_struct ht hv
      obtain ⟨l, rfl, _⟩ := hf
      obtain ⟨cs', rfl, _⟩ := hr
      have : cs = cs'.toArray := hc
      rw [this]
    · cases hs
end
end Go.Proofs.YteekaonhdckicaaGreatDoor.Dp

namespace Go.Proofs.YteekaonhdckicaaGreatDoor.Dp
open Go Go.ChangeShapes Go.WideShapes Go.ChangeAt Go.RowKit Go.Proofs.YteekaonhdckicaaGreatDoor.Rt Go.Proofs Go.Proofs.YteekaonhdckicaaGreatDoor.Wrap
set_option linter.unusedVariables false
def names1 : List Func → Bool
  | [] => true
  | fn :: l => (match fn.name == "runtime.NumGoroutine" with
    | true => !fn.body.isSome
    | false => true) && names1 l
theorem names1_ok : ∀ {l : List Func}, names1 l = true → ∀ fn ∈ l, fn.body.isSome = true → (fn.name == "runtime.NumGoroutine") = false
  | [], _, fn, h, _ => by simp at h
  | f :: l, h, fn, hf, hb => by
    simp only [names1, Bool.and_eq_true] at h
    rcases List.mem_cons.1 hf with rfl | hf
    · cases hn : fn.name == "runtime.NumGoroutine" with
      | true => rw [hn] at h; simp [hb] at h
      | false => rfl
    · exact names1_ok h.2 fn hf hb
theorem namesOk : NamesOk Tryz.prog := fun f fn hf hb => names1_ok (l := Tryz.prog.funcs.toList) (by kernel_rfl) fn (Array.mem_toList_iff.2 (Array.mem_of_getElem? hf)) hb
theorem tyOk0 : TyOk tt0 := tyOf_ok (by kernel_rfl)
set_option maxRecDepth 100000 in
theorem tyOk : TyOk tt := { tyOk0 with eqs := fun hk xs ys b hb => tyOk0.eqs (cmpL_ok hk) xs ys b hb }
theorem fnAll (n : Nat) : FnAll tt n := D_ok tyOk libOk (draw_ok tyOk libOk) namesOk n
theorem law_calls {f : FuncId} {ys : List VT} (h : EvF tt f (ys.map .v) (B true)) {W : World} (hg : GlR tt (all W)) {us : List Value} (hr : VRL (all W) ys us) : Calls Tryz.prog f us.toArray W fun e W' => e = .returned (.bool true) ∧ Below W.heap.size W W' := by
  obtain ⟨n, hn⟩ := h
  refine ((fnAll n hn).2.2 W (all W) [] [] us (Rel.start (all_sat W) hg) (concL_v.1 hr)).mono ?_
  rintro e W' ⟨v, F', Wr, rfl, hR, hc⟩
  have hv : v = .bool true := hc
  subst hv
  exact ⟨rfl, ⟨hR.hd.os, hR.hd.tape, hR.hd.output, hR.hd.size, fun b hb => hR.hd.old b hb (by simp)⟩⟩
theorem var_at {P : Program} {W : World} {n : String} {g : Nat} {cs : Array Value} (hg : P.globalNamed n = some g) (h : W.var? P n = some cs) : ∃ t z, W.heap[g]? = some (.cells cs t z) := by
  unfold World.var? at h
  rw [hg, Option.bind_some] at h
  split at h
  · cases h; exact ⟨_, _, by assumption⟩
  · cases h
theorem nameStar : "*" ++ "errors.errorString" = "*errors.errorString" := by decide
theorem nameErr (u : TypeId) (h : Tryz.prog.typeName? 3 u = some "*errors.errorString") : u = 315 :=
  typeName_ptr_named (nm := "errors.errorString") (by rw [nameStar]; kernel_rfl) (by kernel_rfl) (by decide) u (by rw [nameStar]; exact h)
end Go.Proofs.YteekaonhdckicaaGreatDoor.Dp

namespace Go.Proofs.YteekaonhdckicaaGreatDoor.Dp
open Go Go.ChangeShapes Go.WideShapes Go.ChangeAt Go.RowKit Go.Proofs.YteekaonhdckicaaGreatDoor.Rt Go.Proofs Go.Proofs.YteekaonhdckicaaGreatDoor.Wrap
set_option linter.unusedVariables false
def tabs : List (String × DataW Unit) := [("math/bits.deBruijn32tab", Rows.laid_math_bits_deBruijn32tab), ("math/bits.deBruijn64tab", Rows.laid_math_bits_deBruijn64tab), ("internal/strconv.uint64pow10", Rows.laid_internal_strconv_uint64pow10), ("unicode/utf8.acceptRanges", Rows.laid_unicode_utf8_acceptRanges), ("strconv.ErrRange", Rows.laid_strconv_ErrRange), ("strconv.ErrSyntax", Rows.laid_strconv_ErrSyntax), ("unicode/utf8.first", Rows.laid_unicode_utf8_first)]
theorem gPow : Tryz.prog.globalNamed "internal/strconv.uint64pow10" = some 1 := by kernel_rfl
theorem gPowT : (Tryz.prog.globals[1]?).map (·.type) = some 298 := by kernel_rfl
theorem cPow : Tryz.prog.cellsOf 298 = 20 := by kernel_rfl
theorem cU64 : Tryz.prog.cellsOf 152 = 1 := by kernel_rfl
theorem gRng : Tryz.prog.globalNamed "strconv.ErrRange" = some 3 := by kernel_rfl
theorem gRngT : (Tryz.prog.globals[3]?).map (·.type) = some 194 := by kernel_rfl
theorem gSyn : Tryz.prog.globalNamed "strconv.ErrSyntax" = some 2 := by kernel_rfl
theorem gSynT : (Tryz.prog.globals[2]?).map (·.type) = some 194 := by kernel_rfl
theorem cErr : Tryz.prog.cellsOf 317 = 1 := by kernel_rfl
theorem cStr : Tryz.prog.cellsOf 9 = 1 := by kernel_rfl
theorem sent_glr {W : World} {n : String} {text : List UInt8} {r : List (String × DataW Unit)} {g : Nat}
    (h : laidMet Tryz.prog ((n, .iface "*errors.errorString" (.ptr (.agg [.lit (.string text)]))) :: r) W) (hg : Tryz.prog.globalNamed n = some g) (ht : (Tryz.prog.globals[g]?).map (·.type) = some 194) :
    ∃ (u : Value) (t : TypeId) (z : Nat × Nat), all W g = some (.cells u.cells t z) ∧ VR (all W) .ifc u := by
  obtain ⟨a, s, hv, _, _, _⟩ := laid_sentinel h hg ht Tryz.underlying194 nameErr Tryz.underlying315 Tryz.underlying317 rfl rfl Tryz.underlying9 cErr cStr
  obtain ⟨t, z, h2⟩ := var_at hg hv
  exact ⟨.iface 315 (.pointer (some a)), t, z, h2, _, _, rfl⟩
theorem vrl_ints {F : Frz} : ∀ l : List Int, VRL F (l.map (VT.int .u64)) (l.map (Value.int .u64))
  | [] => rfl
  | x :: l => ⟨_, _, rfl, rfl, vrl_ints l⟩
theorem glr {W : World} (h : laidMetH Tryz.prog tabs W) : GlR tt (all W) := by
  have h1 : laidMet Tryz.prog tabs W := h
  have hp : laidMet Tryz.prog (("internal/strconv.uint64pow10", Lib.tabData .u64 Lib.pow10Tab) :: _) W := h1.tail.tail
  have hr : laidMet Tryz.prog (("strconv.ErrRange", .iface "*errors.errorString" (.ptr (.agg [.lit (.string _)]))) :: _) W := h1.tail.tail.tail.tail
  have hs : laidMet Tryz.prog (("strconv.ErrSyntax", .iface "*errors.errorString" (.ptr (.agg [.lit (.string _)]))) :: _) W := h1.tail.tail.tail.tail.tail
  refine ⟨fun g x hx => ?_, fun g k hk => by cases hk⟩
  have hm : (g, x) ∈ glL := look_mem hx
  simp only [glL, List.mem_cons, Prod.mk.injEq, List.not_mem_nil, or_false] at hm
  rcases hm with ⟨rfl, rfl⟩ | ⟨rfl, rfl⟩ | ⟨rfl, rfl⟩
  · have h2 := Lib.tabIs_of_head gPow gPowT Tryz.underlying298 Tryz.underlying152 cU64 cPow hp
    obtain ⟨t, z, h3⟩ := var_at gPow h2
    exact ⟨.agg (Lib.pow10Tab.map (Value.int .u64)).toArray, t, z, h3, _, rfl, vrl_ints _, rfl⟩
  · exact sent_glr hs gSyn gSynT
  · exact sent_glr hr gRng gRngT
def laidCells : DataW Unit → List Value
  | .lit (.int k z) => [.int k z]
  | .agg xs => xs.flatMap fun | .lit (.int k z) => [.int k z] | .agg [.lit (.int k z), .lit (.int k' z')] => [.int k z, .int k' z'] | _ => []
  | _ => []
def putIn (h : Array Obj) (g : Nat) (d : DataW Unit) : Array Obj := h.modify g fun
  | .cells _ t frozen => .cells (laidCells d).toArray t frozen
  | o => o
def putErr (h : Array Obj) (g b : Nat) : Array Obj := h.modify g fun
  | .cells _ t frozen => .cells #[.iface 315 (.pointer (some ⟨b, 0, none⟩))] t frozen
  | o => o
def errRange : ByteArray := ⟨#[118, 97, 108, 117, 101, 32, 111, 117, 116, 32, 111, 102, 32, 114, 97, 110, 103, 101]⟩
def errSyntax : ByteArray := ⟨#[105, 110, 118, 97, 108, 105, 100, 32, 115, 121, 110, 116, 97, 120]⟩
noncomputable def low : Nat := (World.holding Tryz.prog default ⟨#[], #[], []⟩).heap.size
noncomputable def laidWorld (os : Os) : World :=
  let w0 := World.holding Tryz.prog os ⟨#[.cells #[.string errRange] 317, .cells #[.string errSyntax] 317], #[], []⟩
  { w0 with heap := putIn (putErr (putErr (putIn (putIn (putIn (putIn w0.heap 6 Rows.laid_math_bits_deBruijn32tab) 7 Rows.laid_math_bits_deBruijn64tab) 1 Rows.laid_internal_strconv_uint64pow10) 5 Rows.laid_unicode_utf8_acceptRanges) 3 low) 2 (low + 1)) 4 Rows.laid_unicode_utf8_first }
set_option maxRecDepth 100000 in
theorem laid_met (os : Os) (args : Array Value) : laidMet Tryz.prog tabs ((laidWorld os).forCall (fun _ _ => 0) ⟨#[], args, []⟩).memory :=
  laidMet_of_run' 8 (by kernel_rfl) (by kernel_rfl)
end Go.Proofs.YteekaonhdckicaaGreatDoor.Dp

namespace Go.Proofs.YteekaonhdckicaaGreatDoor.Dp
open Go Go.Proofs.YteekaonhdckicaaGreatDoor.Rt Go.Proofs.YteekaonhdckicaaGreatDoor.D
set_option linter.unusedVariables false
theorem InR.drop {l : List Int} (h : InR l) (k : Nat) : InR (l.drop k) := fun e he => h e (List.mem_of_mem_drop he)
theorem InR.take {l : List Int} (h : InR l) (k : Nat) : InR (l.take k) := fun e he => h e (List.mem_of_mem_take he)
theorem sub_step {x c y : Int} (h0 : 0 ≤ c) (h1 : c ≤ 1) (hx0 : 0 ≤ x) (hx1 : x < 1048576) (hy0 : 0 ≤ y) (hy1 : y < 1048576) {t : Int} (ht : t = x - c - y) : t / 1048576 % 2 = -(t / 1048576) ∧ 0 ≤ -(t / 1048576) ∧ -(t / 1048576) ≤ 1 := by
  subst ht; omega
theorem setD_exact {us vs : List Int} {g : Int} (hu : InR us) (hv : InR vs) (hl : vs.length ≤ us.length) (hg : 0 ≤ g) (h : g * val vs ≤ val us) : (setD g 0 us vs).2 = 0 ∧ val (setD g 0 us vs).1 = val us - g * val vs := by
  have e1 := setD_val g us vs 0 hl
  have e2 := setD_borrow hg us vs 0 hu hv (by decide) hg
  have e3 := val_lt (setD_in g us vs 0)
  rw [valc_eq, setD_len] at e1
  rw [setD_len] at e3
  have hb : (setD g 0 us vs).2 = 0 := by
    rcases (show 0 < (setD g 0 us vs).2 ∨ (setD g 0 us vs).2 ≤ 0 by omega) with h4 | h4
    · have h5 : pw us.length * (-(setD g 0 us vs).2) ≤ pw us.length * (-1) := Int.mul_le_mul_of_nonneg_left (by omega) (by have := pw_pos us.length; omega)
      omega
    · omega
  refine ⟨hb, ?_⟩
  rw [hb] at e1
  simp only [Int.neg_zero, Int.mul_zero] at e1
  omega
theorem last3 {l : List Int} (h : 3 ≤ l.length) : ∃ ul a b c, l = ul ++ [a, b, c] := by
  refine ⟨l.take (l.length - 3), l[l.length - 3], l[l.length - 2], l[l.length - 1], ?_⟩
  have h1 : l.drop (l.length - 3) = [l[l.length - 3], l[l.length - 2], l[l.length - 1]] := by
    rw [List.drop_eq_getElem_cons (by omega), List.drop_eq_getElem_cons (by omega), List.drop_eq_getElem_cons (by omega), List.drop_eq_nil_of_le (by omega)]
    simp only [show l.length - 3 + 1 = l.length - 2 by omega, show l.length - 2 + 1 = l.length - 1 by omega]
  rw [← h1, List.take_append_drop]
theorem last2 {l : List Int} (h : 2 ≤ l.length) : ∃ ul a b, l = ul ++ [a, b] := by
  refine ⟨l.take (l.length - 2), l[l.length - 2], l[l.length - 1], ?_⟩
  have h1 : l.drop (l.length - 2) = [l[l.length - 2], l[l.length - 1]] := by
    rw [List.drop_eq_getElem_cons (by omega), List.drop_eq_getElem_cons (by omega), List.drop_eq_nil_of_le (by omega)]
    simp only [show l.length - 2 + 1 = l.length - 1 by omega]
  rw [← h1, List.take_append_drop]
theorem last1 {l : List Int} (h : 1 ≤ l.length) : ∃ ul a, l = ul ++ [a] :=
  ⟨l.take (l.length - 1), l[l.length - 1], by
    have h1 : l.drop (l.length - 1) = [l[l.length - 1]] := by
      rw [List.drop_eq_getElem_cons (by omega), List.drop_eq_nil_of_le (by omega)]
    rw [← h1, List.take_append_drop]⟩
theorem first_guess {P Ul u2 T V1 V2 Vl g : Int} (hP : 0 < P) (hU : Ul < P) (hu : u2 < 1048576) (hV : 0 ≤ Vl) (h2 : 0 ≤ V2) (hg : T < (g + 1) * V1) (hg0 : 0 ≤ g) :
    Ul + P * (u2 + 1048576 * T) < (g + 1) * (Vl + P * (V2 + 1048576 * V1)) := by
  have e1 : P * u2 ≤ P * 1048575 := Int.mul_le_mul_of_nonneg_left (by omega) (by omega)
  have e2 : P * (T + 1) ≤ P * ((g + 1) * V1) := Int.mul_le_mul_of_nonneg_left (by omega) (by omega)
  have e3 : 0 ≤ (g + 1) * Vl := Int.mul_nonneg (by omega) hV
  have e4 : 0 ≤ (g + 1) * (P * V2) := Int.mul_nonneg (by omega) (Int.mul_nonneg (by omega) h2)
  have e5 : (g + 1) * (Vl + P * (V2 + 1048576 * V1)) = (g + 1) * Vl + (g + 1) * (P * V2) + 1048576 * (P * ((g + 1) * V1)) := by grind
  have e6 : Ul + P * (u2 + 1048576 * T) = Ul + P * u2 + 1048576 * (P * (T + 1)) - 1048576 * P := by grind
  omega
theorem nat_div_scale {a b s : Nat} (hs : 0 < s) : a * s / (b * s) = a / b ∧ a * s % (b * s) = a % b * s := ⟨Nat.mul_div_mul_right _ _ hs, Nat.mul_mod_mul_right _ _ _⟩
def toB (x : Int) : Big := ⟨sg x, dig x.natAbs⟩
def Sm (k : Nat) (x : Int) : Prop := (x.natAbs : Int) < pw k
theorem sg_cases (x : Int) : (x < 0 ∧ sg x = -1) ∨ (x = 0 ∧ sg x = 0) ∨ (0 < x ∧ sg x = 1) := by
  unfold sg; split
  · exact .inl ⟨by assumption, rfl⟩
  · split
    · exact .inr (.inr ⟨by assumption, rfl⟩)
    · exact .inr (.inl ⟨by omega, rfl⟩)
theorem sg_pos {x : Int} (h : 0 < x) : sg x = 1 := by rcases sg_cases x with h1 | h1 | h1 <;> omega
theorem sg_neg {x : Int} (h : x < 0) : sg x = -1 := by rcases sg_cases x with h1 | h1 | h1 <;> omega
theorem sg_mul (x y : Int) : sg (x * y) = sg x * sg y := by
  rcases sg_cases x with ⟨h1, h2⟩ | ⟨h1, h2⟩ | ⟨h1, h2⟩ <;> rcases sg_cases y with ⟨h3, h4⟩ | ⟨h3, h4⟩ | ⟨h3, h4⟩ <;> rw [h2, h4]
  · exact sg_pos (Int.mul_pos_of_neg_of_neg h1 h3)
  · subst h3; rw [Int.mul_zero]; decide
  · exact sg_neg (Int.mul_neg_of_neg_of_pos h1 h3)
  · subst h1; rw [Int.zero_mul]; decide
  · subst h1; rw [Int.zero_mul]; decide
  · subst h1; rw [Int.zero_mul]; decide
  · exact sg_neg (Int.mul_neg_of_pos_of_neg h1 h3)
  · subst h3; rw [Int.mul_zero]; decide
  · exact sg_pos (Int.mul_pos h1 h3)
theorem sg_natAbs (x : Int) : sg x * (x.natAbs : Int) = x := by
  rcases sg_cases x with ⟨h1, h2⟩ | ⟨h1, h2⟩ | ⟨h1, h2⟩ <;> rw [h2] <;> omega
theorem sg_range (x : Int) : -1 ≤ sg x ∧ sg x ≤ 1 := by rcases sg_cases x with h | h | h <;> omega
theorem pw_add (a : Nat) : ∀ b, pw (a + b) = pw a * pw b
  | 0 => by simp [pw]
  | b + 1 => by rw [← Nat.add_assoc]; simp only [pw, pw_add a b]; grind
theorem len_of_sm {k : Nat} {x : Int} (h : Sm k x) : (dig x.natAbs).length ≤ k := by
  rcases Nat.lt_or_ge k (dig x.natAbs).length with h1 | h1
  · exfalso
    have h2 : val (List.replicate k (1048575 : Int)) < val (dig x.natAbs) := val_lt_of_len (fun e he => by rw [(List.mem_replicate.1 he).2]; decide) (Canon_dig _) (by simpa using h1)
    have h3 : ∀ k, val (List.replicate k (1048575 : Int)) = pw k - 1 := by
      intro k
      induction k with
      | zero => rfl
      | succ k ih => rw [List.replicate_succ]; simp only [val, pw, ih]; omega
    rw [h3, val_dig] at h2
    unfold Sm at h
    omega
  · exact h1
theorem sm_of_len {k : Nat} {x : Int} (h : (dig x.natAbs).length ≤ k) : Sm k x := by
  have h1 := val_lt (InR_dig x.natAbs)
  rw [val_dig] at h1
  exact Int.lt_of_lt_of_le h1 (pw_mono h)
theorem Sm.mono {k l : Nat} {x : Int} (h : Sm k x) (hkl : k ≤ l) : Sm l x := Int.lt_of_lt_of_le h (pw_mono hkl)
theorem Sm.add {k : Nat} {x y : Int} (h : Sm k x) (h2 : Sm k y) : Sm (k + 1) (x + y) := by
  unfold Sm at *; simp only [pw]; omega
theorem Sm.neg {k : Nat} {x : Int} (h : Sm k x) : Sm k (-x) := by unfold Sm at *; omega
theorem Sm.sub {k : Nat} {x y : Int} (h : Sm k x) (h2 : Sm k y) : Sm (k + 1) (x - y) := by rw [Int.sub_eq_add_neg]; exact h.add h2.neg
theorem Sm.mul {k l : Nat} {x y : Int} (h : Sm k x) (h2 : Sm l y) : Sm (k + l) (x * y) := by
  unfold Sm at *
  rw [pw_add, Int.natAbs_mul, Int.natCast_mul]
  have h3 : (x.natAbs : Int) * y.natAbs ≤ x.natAbs * pw l := Int.mul_le_mul_of_nonneg_left (by omega) (by omega)
  have h4 : (x.natAbs : Int) * pw l < pw k * pw l := Int.mul_lt_mul_of_pos_right h (pw_pos l)
  omega
theorem Sm.le {k : Nat} {x y : Int} (h : Sm k x) (h2 : y.natAbs ≤ x.natAbs) : Sm k y := by unfold Sm at *; omega
def okd (d : Int) : Bool := decide (0 ≤ d) && decide (d < 1048576)
def rightb (a : Big) : Bool := a.Digits.all okd && (if a.Digits = [] then a.Sign == 0 else (a.Sign == 1 || a.Sign == -1) && (a.Digits.getLast?.getD 0 != 0))
theorem rightb_toB (x : Int) : rightb (toB x) = true := by
  unfold rightb toB
  have h1 : (dig x.natAbs).all okd = true := by
    rw [List.all_eq_true]
    intro d hd
    have := InR_dig _ d hd
    unfold okd; simp; omega
  simp only [h1, Bool.true_and]
  by_cases h : x = 0
  · subst h; rw [show (0 : Int).natAbs = 0 from rfl, dig_zero]; rfl
  · rw [if_neg (dig_ne (by omega))]
    have h2 : (dig x.natAbs).getLast?.getD 0 ≠ 0 := by
      have h3 := dig_last x.natAbs
      cases h4 : (dig x.natAbs).getLast? with
      | none => rw [List.getLast?_eq_none_iff] at h4; exact absurd h4 (dig_ne (by omega))
      | some d => rw [h4] at h3; simpa using h3
    rcases sg_cases x with ⟨_, h5⟩ | ⟨h6, _⟩ | ⟨_, h5⟩
    · rw [h5]; simpa using h2
    · exact absurd h6 h
    · rw [h5]; simpa using h2
theorem toB_of_right {a : Big} (h : rightb a = true) : ∃ x, a = toB x := by
  obtain ⟨s, l⟩ := a
  unfold rightb at h
  simp only [Bool.and_eq_true, List.all_eq_true] at h
  obtain ⟨h1, h2⟩ := h
  have hi : InR l := fun d hd => by have := h1 d hd; unfold okd at this; simpa using this
  by_cases hl : l = []
  · subst hl
    simp only [if_true, beq_iff_eq] at h2
    subst h2
    exact ⟨0, by unfold toB; rw [show (0 : Int).natAbs = 0 from rfl, dig_zero]; rfl⟩
  · simp only [if_neg hl, Bool.and_eq_true, Bool.or_eq_true, beq_iff_eq, bne_iff_ne] at h2
    have hc : Canon l := by
      refine ⟨hi, fun h3 => ?_⟩
      rw [h3] at h2; exact h2.2 rfl
    have hv := val_nonneg hi
    have hv0 : val l ≠ 0 := fun e => by have := dig_val hc; rw [e, Int.toNat_zero, dig_zero] at this; exact hl this.symm
    have hd := dig_val hc
    rcases h2.1 with h3 | h3
    · refine ⟨val l, ?_⟩
      unfold toB
      rw [sg_pos (by omega), h3, show (val l).natAbs = (val l).toNat by omega, hd]
    · refine ⟨-val l, ?_⟩
      unfold toB
      rw [sg_neg (by omega), h3, show (-val l).natAbs = (val l).toNat by omega, hd]
theorem toB_zero : toB 0 = ⟨0, []⟩ := by unfold toB; rw [show (0 : Int).natAbs = 0 from rfl, dig_zero]; rfl
theorem signed_toB {s : Int} {v : Nat} (z : Int) (hz : z.natAbs = v) (hs : v ≠ 0 → s = sg z) : (if v = 0 then (⟨0, []⟩ : Big) else ⟨s, dig v⟩) = toB z := by
  by_cases hv : v = 0
  · rw [if_pos hv]
    have : z = 0 := by omega
    rw [this, toB_zero]
  · rw [if_neg hv, hs hv]; unfold toB; rw [hz]
theorem imul_sg (x y : Int) : imul .i64 (sg x) (sg y) = sg (x * y) := by
  rw [sg_mul]
  have h1 := sg_range x
  have h2 := sg_range y
  refine imul_i64 ?_ ?_ <;> rcases sg_cases x with ⟨_, h⟩ | ⟨_, h⟩ | ⟨_, h⟩ <;> rw [h] <;> omega
def odd (x y : Int) : Bool := decide (x * y < 0) && decide (x.natAbs % y.natAbs ≠ 0)
def dq (x y : Int) : Int := if odd x y then -((x.natAbs / y.natAbs : Nat) + 1 : Int) else sg (x * y) * (x.natAbs / y.natAbs : Nat)
def dr (x y : Int) : Int := if odd x y then sg y * ((y.natAbs - x.natAbs % y.natAbs : Nat) : Int) else sg x * ((x.natAbs % y.natAbs : Nat) : Int)
theorem mul_neg_iff {x y : Int} : x * y < 0 ↔ (x < 0 ∧ 0 < y) ∨ (0 < x ∧ y < 0) := by
  rcases sg_cases x with ⟨h1, h2⟩ | ⟨h1, h2⟩ | ⟨h1, h2⟩ <;> rcases sg_cases y with ⟨h3, h4⟩ | ⟨h3, h4⟩ | ⟨h3, h4⟩
  · have := Int.mul_pos_of_neg_of_neg h1 h3; omega
  · subst h3; simp
  · have := Int.mul_neg_of_neg_of_pos h1 h3; omega
  · subst h1; simp
  · subst h1; simp
  · subst h1; simp
  · have := Int.mul_neg_of_pos_of_neg h1 h3; omega
  · subst h3; simp
  · have := Int.mul_pos h1 h3; omega
theorem dq_dr {x y : Int} (hy : y ≠ 0) : dq x y * y + dr x y = x ∧ (dr x y = 0 ∨ sg (dr x y) = sg y) ∧ (dr x y).natAbs < y.natAbs := by
  have hyn : 0 < y.natAbs := by omega
  have h1 := Nat.div_add_mod x.natAbs y.natAbs
  have h2 := Nat.mod_lt x.natAbs hyn
  have h1' : (y.natAbs : Int) * ((x.natAbs / y.natAbs : Nat) : Int) + ((x.natAbs % y.natAbs : Nat) : Int) = x.natAbs := by rw [← Int.natCast_mul]; omega
  generalize hq : x.natAbs / y.natAbs = q at *
  generalize hr : x.natAbs % y.natAbs = r at *
  unfold dq dr odd
  rw [hq, hr]
  by_cases ho : x * y < 0
  · by_cases hr0 : r = 0
    · rw [show (decide (x * y < 0) && decide (r ≠ 0)) = false by simp [hr0]]
      simp only [if_neg Bool.false_ne_true]
      rw [hr0] at h1' ⊢
      rw [sg_neg ho]
      simp only [Int.natCast_zero, Int.mul_zero, Int.add_zero] at h1' ⊢
      refine ⟨?_, .inl trivial, by omega⟩
      rcases mul_neg_iff.1 ho with ⟨a, b⟩ | ⟨a, b⟩
      · have e : (y.natAbs : Int) = y := by omega
        rw [e] at h1'
        have : -1 * (q : Int) * y = -(y * q) := by grind
        omega
      · have e : (y.natAbs : Int) = -y := by omega
        rw [e] at h1'
        have : -1 * (q : Int) * y = -y * q := by grind
        omega
    · rw [show (decide (x * y < 0) && decide (r ≠ 0)) = true by simp [hr0, ho]]
      simp only [if_true]
      rcases mul_neg_iff.1 ho with ⟨a, b⟩ | ⟨a, b⟩
      · have e : (y.natAbs : Int) = y := by omega
        rw [e] at h1'
        rw [sg_pos b]
        have : -((q : Int) + 1) * y = -(y * q) - y := by grind
        exact ⟨by omega, .inr (by rw [sg_pos (by omega)]), by omega⟩
      · have e : (y.natAbs : Int) = -y := by omega
        rw [e] at h1'
        rw [sg_neg b]
        have : -((q : Int) + 1) * y = -y * q - y := by grind
        exact ⟨by omega, .inr (by rw [sg_neg (by omega)]), by omega⟩
  · rw [show (decide (x * y < 0) && decide (r ≠ 0)) = false by simp [ho]]
    simp only [if_neg Bool.false_ne_true]
    rcases sg_cases x with ⟨a, b⟩ | ⟨a, b⟩ | ⟨a, b⟩ <;> rcases sg_cases y with ⟨c, d⟩ | ⟨c, d⟩ | ⟨c, d⟩
    · rw [sg_mul, b, d]
      have e : (y.natAbs : Int) = -y := by omega
      rw [e] at h1'
      have : -1 * -1 * (q : Int) * y = -(-y * q) := by grind
      refine ⟨by omega, ?_, by omega⟩
      by_cases hr0 : r = 0
      · left; omega
      · right; rw [sg_neg (by omega)]
    · exact absurd c hy
    · exact absurd (mul_neg_iff.2 (.inl ⟨a, c⟩)) ho
    · rw [sg_mul, b]; subst a
      have : r = 0 := by rw [← hr]; simp
      refine ⟨?_, .inl (by omega), by omega⟩
      simp
    · exact absurd c hy
    · rw [sg_mul, b]; subst a
      refine ⟨?_, .inl (by omega), by omega⟩
      simp
    · exact absurd (mul_neg_iff.2 (.inr ⟨a, c⟩)) ho
    · exact absurd c hy
    · rw [sg_mul, b, d]
      have e : (y.natAbs : Int) = y := by omega
      rw [e] at h1'
      have : 1 * 1 * (q : Int) * y = y * q := by grind
      refine ⟨by omega, ?_, by omega⟩
      by_cases hr0 : r = 0
      · left; omega
      · right; rw [sg_pos (by omega)]
theorem dq_odd {x y : Int} (ho : odd x y = true) : (dq x y).natAbs = x.natAbs / y.natAbs + 1 ∧ sg (dq x y) = -1 := by
  unfold dq; rw [if_pos ho]
  generalize x.natAbs / y.natAbs = q
  exact ⟨by omega, sg_neg (by omega)⟩
theorem dr_odd {x y : Int} (hy : y ≠ 0) (ho : odd x y = true) : (dr x y).natAbs = y.natAbs - x.natAbs % y.natAbs ∧ sg (dr x y) = sg y := by
  unfold dr; rw [if_pos ho]
  have h := Nat.mod_lt x.natAbs (show y.natAbs > 0 by omega)
  generalize x.natAbs % y.natAbs = r at *
  rcases sg_cases y with ⟨h1, h2⟩ | ⟨h1, h2⟩ | ⟨h1, h2⟩ <;> rw [h2]
  · exact ⟨by omega, sg_neg (by omega)⟩
  · exact absurd h1 hy
  · exact ⟨by omega, sg_pos (by omega)⟩
theorem dq_even {x y : Int} (hy : y ≠ 0) (ho : ¬odd x y = true) : (dq x y).natAbs = x.natAbs / y.natAbs ∧ (x.natAbs / y.natAbs ≠ 0 → sg (x * y) = sg (dq x y)) := by
  unfold dq; rw [if_neg ho]
  rcases sg_cases (x * y) with ⟨h1, h2⟩ | ⟨h1, h2⟩ | ⟨h1, h2⟩ <;> rw [h2]
  · generalize x.natAbs / y.natAbs = q
    exact ⟨by omega, fun _ => by rw [sg_neg (by omega)]⟩
  · have h3 : x = 0 := by
      rcases Int.mul_eq_zero.1 h1 with h4 | h4
      · exact h4
      · exact absurd h4 hy
    subst h3
    rw [show (0 : Int).natAbs = 0 from rfl, Nat.zero_div]
    exact ⟨rfl, fun h => absurd rfl h⟩
  · generalize x.natAbs / y.natAbs = q
    exact ⟨by omega, fun _ => by rw [sg_pos (by omega)]⟩
theorem dr_even {x y : Int} (ho : ¬odd x y = true) : (dr x y).natAbs = x.natAbs % y.natAbs ∧ (x.natAbs % y.natAbs ≠ 0 → sg x = sg (dr x y)) := by
  unfold dr; rw [if_neg ho]
  rcases sg_cases x with ⟨h1, h2⟩ | ⟨h1, h2⟩ | ⟨h1, h2⟩ <;> rw [h2]
  · generalize x.natAbs % y.natAbs = r
    exact ⟨by omega, fun _ => by rw [sg_neg (by omega)]⟩
  · subst h1
    rw [show (0 : Int).natAbs = 0 from rfl, Nat.zero_mod]
    exact ⟨rfl, fun h => absurd rfl h⟩
  · generalize x.natAbs % y.natAbs = r
    exact ⟨by omega, fun _ => by rw [sg_pos (by omega)]⟩
theorem dig_one : dig 1 = [1] := by rw [dig_pos (by decide), show 1 / 1048576 = 0 from rfl, dig_zero]; rfl
theorem len64 {u : Nat} (h : u < 18446744073709551616) : (dig u).length ≤ 4 := by
  have h1 : Sm 4 (u : Int) := by unfold Sm; rw [Int.natAbs_natCast, show pw 4 = 1208925819614629174706176 by decide]; omega
  have h2 := len_of_sm h1
  rwa [Int.natAbs_natCast] at h2
theorem shl_u64 {x : Int} {i : Nat} (hi : i ≤ 60) (h0 : 0 ≤ x) (h1 : x * 2 ^ i < 18446744073709551616) : shl .u64 x (i : Int) = some (x * 2 ^ i) := by
  unfold shl
  have h3 : 0 ≤ x * 2 ^ i := Int.mul_nonneg h0 (Int.le_of_lt (Int.pow_pos (by decide)))
  rw [if_neg (by omega), show min (i : Int).toNat IntKind.u64.bits = i by simp [IntKind.bits]; omega, wrapu64]
  congr 1
  omega
theorem ior_u64 {x y : Int} {i : Nat} (h0 : 0 ≤ x) (h1 : x < 2 ^ i) (h2 : 0 ≤ y) (h3 : x + y * 2 ^ i < 18446744073709551616) : ior .u64 x (y * 2 ^ i) = x + y * 2 ^ i := by
  obtain ⟨p, rfl⟩ := Int.eq_ofNat_of_zero_le h0
  obtain ⟨q, rfl⟩ := Int.eq_ofNat_of_zero_le h2
  have h1' : p < 2 ^ i := by have : ((p : Nat) : Int) < ((2 ^ i : Nat) : Int) := by simpa using h1
                             exact Int.ofNat_lt.1 this
  have e : (q : Int) * 2 ^ i = ((2 ^ i * q : Nat) : Int) := by rw [Int.natCast_mul, Int.mul_comm]; simp
  rw [e] at h3 ⊢
  unfold ior
  rw [BitVec.toNat_or, BitVec.toNat_ofInt, BitVec.toNat_ofInt, show IntKind.u64.bits = 64 from rfl]
  have e1 : ((p : Int) % ((2 ^ 64 : Nat) : Int)).toNat = p := by omega
  have e2 : (((2 ^ i * q : Nat) : Int) % ((2 ^ 64 : Nat) : Int)).toNat = 2 ^ i * q := by omega
  rw [e1, e2, Nat.or_comm, ← Nat.two_pow_add_eq_or_of_lt h1', wrapu64]
  omega
theorem pw_two : ∀ i, pw i = 2 ^ (20 * i)
  | 0 => rfl
  | i + 1 => by rw [pw, pw_two i, Nat.mul_add, Int.pow_add, Int.mul_comm]; rfl
def toF (r : Rat) : Frac := ⟨toB r.num, toB (r.den : Int)⟩
def SmF (k : Nat) (r : Rat) : Prop := Sm k r.num ∧ Sm k (r.den : Int)
def zeroF : Frac := ⟨⟨0, []⟩, ⟨0, []⟩⟩
theorem den_pos (r : Rat) : 0 < (r.den : Int) := by have := r.den_nz; omega
theorem SmF.mono {j k : Nat} {r : Rat} (h : SmF j r) (hk : j ≤ k) : SmF k r := ⟨h.1.mono hk, h.2.mono hk⟩
theorem divInt_pos {p q : Int} (hq : 0 < q) : (Rat.divInt p q).num = p / ((Nat.gcd p.natAbs q.natAbs : Nat) : Int) ∧ ((Rat.divInt p q).den : Int) = q / ((Nat.gcd p.natAbs q.natAbs : Nat) : Int) := by
  obtain ⟨d, rfl⟩ := Int.eq_ofNat_of_zero_le (Int.le_of_lt hq)
  have hd : d ≠ 0 := by omega
  rw [Rat.divInt_ofNat, Rat.mkRat_def, dif_neg hd, Rat.normalize_eq, Int.natAbs_natCast]
  exact ⟨rfl, Int.natCast_ediv _ _⟩
theorem rat_add (a b : Rat) : a + b = Rat.divInt (a.num * b.den + b.num * a.den) (a.den * b.den) := by
  conv => lhs; rw [← Rat.num_divInt_den a, ← Rat.num_divInt_den b]
  rw [Rat.divInt_add_divInt _ _ (by have := den_pos a; omega) (by have := den_pos b; omega)]
theorem rat_mul (a b : Rat) : a * b = Rat.divInt (a.num * b.num) (a.den * b.den) := by
  conv => lhs; rw [← Rat.num_divInt_den a, ← Rat.num_divInt_den b]
  rw [Rat.divInt_mul_divInt]
theorem dq_pos {x y : Int} (hy : 0 < y) : dq x y = x / y := by
  obtain ⟨h1, h2, h3⟩ := dq_dr (x := x) (y := y) (by omega)
  have h4 : 0 ≤ dr x y ∧ dr x y < y := by
    rcases h2 with h | h
    · omega
    · rw [sg_pos hy] at h
      have := sg_cases (dr x y)
      omega
  generalize dq x y = q at *
  generalize dr x y = r at *
  rw [← h1, Int.add_comm, Int.add_mul_ediv_right _ _ (by omega), Int.ediv_eq_zero_of_lt h4.1 h4.2]; omega
theorem ediv_sm {x y : Int} {k : Nat} (h : Sm k x) : Sm k (x / y) := h.le (Int.natAbs_ediv_le_natAbs x y)
theorem divInt_neg2 (p q : Int) : Rat.divInt p q = Rat.divInt (-p) (-q) := (Rat.neg_divInt_neg p q).symm
theorem SmF_divInt {p q : Int} {k : Nat} (hp : Sm k p) (hq : Sm k q) (h0 : q ≠ 0) : SmF k (Rat.divInt p q) := by
  by_cases hn : q < 0
  · rw [divInt_neg2]
    obtain ⟨e1, e2⟩ := divInt_pos (p := -p) (q := -q) (by omega)
    exact ⟨by rw [e1]; exact ediv_sm hp.neg, by rw [e2]; exact ediv_sm hq.neg⟩
  · obtain ⟨e1, e2⟩ := divInt_pos (p := p) (q := q) (by omega)
    exact ⟨by rw [e1]; exact ediv_sm hp, by rw [e2]; exact ediv_sm hq⟩
theorem mul_ne {x y : Int} (hx : x ≠ 0) (hy : y ≠ 0) : x * y ≠ 0 := Int.mul_ne_zero hx hy
theorem den_ne (r : Rat) : (r.den : Int) ≠ 0 := by have := den_pos r; omega
theorem SmF.add {j k : Nat} {a b : Rat} (ha : SmF j a) (hb : SmF k b) : SmF (j + k + 1) (a + b) := by
  rw [rat_add]
  exact SmF_divInt ((ha.1.mul hb.2).add ((hb.1.mul ha.2).mono (by omega))) ((ha.2.mul hb.2).mono (by omega)) (mul_ne (den_ne a) (den_ne b))
theorem SmF.mul {j k : Nat} {a b : Rat} (ha : SmF j a) (hb : SmF k b) : SmF (j + k) (a * b) := by
  rw [rat_mul]
  exact SmF_divInt (ha.1.mul hb.1) (ha.2.mul hb.2) (mul_ne (den_ne a) (den_ne b))
theorem SmF.neg {k : Nat} {a : Rat} (ha : SmF k a) : SmF k (-a) := ⟨by rw [Rat.neg_num]; exact ha.1.neg, by rw [Rat.neg_den]; exact ha.2⟩
theorem SmF.sub {j k : Nat} {a b : Rat} (ha : SmF j a) (hb : SmF k b) : SmF (j + k + 1) (a - b) := by rw [Rat.sub_eq_add_neg]; exact ha.add hb.neg
def ofB (a : Big) : Int := a.Sign * val a.Digits
theorem ofB_toB (x : Int) : ofB (toB x) = x := by unfold ofB toB; rw [val_dig, sg_natAbs]
def rightf (f : Frac) : Bool := rightb f.P && rightb f.Q && (f.Q.Sign == 1) && (Nat.gcd (ofB f.P).natAbs (ofB f.Q).natAbs == 1)
theorem rightf_toF (r : Rat) : rightf (toF r) = true := by
  unfold rightf toF
  simp only
  rw [rightb_toB, rightb_toB, ofB_toB, ofB_toB]
  have h1 : (toB (r.den : Int)).Sign = 1 := sg_pos (den_pos r)
  rw [h1, Int.natAbs_natCast]
  have h2 : Nat.gcd r.num.natAbs r.den = 1 := r.reduced
  rw [h2]; rfl
theorem toF_of_rightf {f : Frac} (h : rightf f = true) : ∃ r, f = toF r := by
  obtain ⟨P, Q⟩ := f
  unfold rightf at h
  simp only [Bool.and_eq_true, beq_iff_eq] at h
  obtain ⟨⟨⟨h1, h2⟩, h3⟩, h4⟩ := h
  obtain ⟨p, rfl⟩ := toB_of_right h1
  obtain ⟨q, rfl⟩ := toB_of_right h2
  rw [ofB_toB, ofB_toB] at h4
  have h5 : 0 < q := by have h6 : sg q = 1 := h3; have := sg_cases q; omega
  obtain ⟨d, rfl⟩ := Int.eq_ofNat_of_zero_le (Int.le_of_lt h5)
  refine ⟨⟨p, d, by omega, ?_⟩, rfl⟩
  rwa [Int.natAbs_natCast] at h4
theorem gcd_sm2 {p q : Int} {k : Nat} (hp : Sm k p) (hq : Sm k q) : Sm k ((Nat.gcd p.natAbs q.natAbs : Nat) : Int) := by
  by_cases h0 : p.natAbs = 0
  · rw [h0, Nat.gcd_zero_left]; exact hq.le (by omega)
  · exact hp.le (by have := Nat.gcd_le_left q.natAbs (Nat.pos_of_ne_zero h0); omega)
theorem toF_len {r : Rat} {k : Nat} (h : SmF k r) : (toF r).P.Digits.length ≤ k ∧ (toF r).Q.Digits.length ≤ k := ⟨len_of_sm h.1, len_of_sm h.2⟩
def cmpQ (a b : Rat) : Int := sg (a.num * b.den - b.num * a.den)
theorem cmpQ_lt {a b : Rat} (h : a < b) : cmpQ a b = -1 := by
  have := Rat.lt_iff a b
  exact sg_neg (by have := this.1 h; omega)
theorem cmpQ_gt {a b : Rat} (h : b < a) : cmpQ a b = 1 := by
  have := Rat.lt_iff b a
  exact sg_pos (by have := this.1 h; omega)
theorem cmpQ_self (a : Rat) : cmpQ a a = 0 := by unfold cmpQ; rw [Int.sub_self]; rfl
theorem cmpQ_cases (a b : Rat) : (a < b ∧ cmpQ a b = -1) ∨ (a = b ∧ cmpQ a b = 0) ∨ (b < a ∧ cmpQ a b = 1) := by
  by_cases h : a < b
  · exact .inl ⟨h, cmpQ_lt h⟩
  · by_cases h2 : b < a
    · exact .inr (.inr ⟨h2, cmpQ_gt h2⟩)
    · have e : a = b := Rat.le_antisymm (Rat.not_lt.1 h2) (Rat.not_lt.1 h)
      exact .inr (.inl ⟨e, by rw [e]; exact cmpQ_self b⟩)
theorem cmpQ_zero (a b : Rat) : (cmpQ a b == 0) = decide (a = b) := by
  rcases cmpQ_cases a b with ⟨h, e⟩ | ⟨h, e⟩ | ⟨h, e⟩ <;> rw [e]
  · rw [decide_eq_false (by grind)]; rfl
  · rw [decide_eq_true h]; rfl
  · rw [decide_eq_false (by grind)]; rfl
theorem sg_num (r : Rat) : sg r.num = cmpQ r 0 := by
  unfold cmpQ
  congr 1
  show r.num = r.num * 1 - 0 * r.den
  omega
end Go.Proofs.YteekaonhdckicaaGreatDoor.Dp

namespace Go.Proofs.YteekaonhdckicaaGreatDoor.Dp
open Go Go.RowKit Go.Proofs.YteekaonhdckicaaGreatDoor.Rt Go.Proofs Go.Proofs.YteekaonhdckicaaGreatDoor.D
set_option linter.unusedVariables false
set_option maxHeartbeats 4000000
set_option maxRecDepth 100000
theorem isNaN_e (x : Int) : EvF tt 239 [.v (N x)] (B false) := by
  refine evF (eIn Tryz.func239 rfl rfl ?_)
  refine qR rfl ⟨?_, rfl⟩
  show B (x != x) = B false
  simp
theorem cmp_e (x y : Int) : EvF tt 190 [.v (N x), .v (N y)] (I (sg (x - y))) := by
  refine evF (eIn Tryz.func190 rfl rfl ?_)
  refine qK rfl (isNaN_e x) rfl (qK rfl (isNaN_e y) rfl ?_)
  refine qN rfl rfl (qN rfl rfl ?_)
  have hs := sg_cases (x - y)
  refine qC rfl (fun h => ?_) (fun h => ?_)
  · exact qR rfl ⟨by show I (-1) = _; rw [show sg (x - y) = -1 by omega], rfl⟩
  · refine qC rfl (fun h => ?_) (fun h => ?_)
    · exact qR rfl ⟨by show I 1 = _; rw [show sg (x - y) = 1 by omega], rfl⟩
    · exact qR rfl ⟨by show I 0 = _; rw [show sg (x - y) = 0 by omega], rfl⟩
theorem trim_o {c : List Int} (r : Nat) (hc : c.getLast? ≠ some 0) (hl : c.length + r < 1099511627776) {xs : List VT} (hx : xs = ns (c ++ List.replicate r 0)) : EvH tt 131 [.row 0 0] [bk (.row 3 1 xs)] (.win 0 0 0 c.length) [⟨0, 0, false, true, false, .row 3 1 xs⟩] := by
  subst hx
  refine evF (eInH 1 Tryz.func131 rfl rfl rfl ?_)
  refine qL (σ := Int) (fun n => [(3, I n)]) (fun _ => []) (fun n => c.length ≤ n ∧ n ≤ c.length + r) Int.toNat (ns (c ++ List.replicate r 0)).length rfl rfl (by simp; omega) ?_
  intro n ⟨h1, h2⟩ ih
  refine qC rfl (fun h => ?_) (fun h => ?_)
  · refine qXm rfl (by rw [isub_i64 (by omega) (by omega)]; simp; omega) fun v hv _ => ?_
    rw [isub_i64 (by omega) (by omega)] at hv
    refine qC rfl (fun h' => ?_) (fun h' => ?_)
    · subst h'
      refine qB (ih (isub .i64 n 1) ?_ ?_) rfl
      · rw [isub_i64 (by omega) (by omega)]
        refine ⟨?_, by omega⟩
        rcases Int.lt_or_le c.length n with h3 | h3
        · omega
        · exfalso
          have h4 : (n - 1).toNat = c.length - 1 := by omega
          rw [h4, List.getElem?_append_left (by omega), ← List.getLast?_eq_getElem?] at hv
          exact hc hv
      · rw [isub_i64 (by omega) (by omega)]; omega
    · have h3 : n = c.length := by
        rcases Int.lt_or_le c.length n with h3 | h3
        · exfalso
          rw [List.getElem?_append_right (by omega), List.getElem?_replicate] at hv
          split at hv
          · cases hv; exact h' rfl
          · cases hv
        · omega
      exact qW rfl ⟨by omega, by omega, by simp; omega⟩ (qR rfl ⟨by subst h3; rfl, rfl⟩)
  · exact qW rfl ⟨by omega, by omega, by simp; omega⟩ (qR rfl ⟨by rw [show n = (c.length : Int) by omega]; rfl, rfl⟩)
theorem trim_e {c : List Int} (r : Nat) (hc : c.getLast? ≠ some 0) (hl : c.length + r < 1099511627776) {xs : List VT} (hx : xs = ns (c ++ List.replicate r 0)) : EvF tt 131 [.v (.sl xs)] (L (ns c)) := by
  subst hx
  refine evF (eIn Tryz.func131 rfl rfl ?_)
  have hend : ∀ n : Int, n = c.length → (((ns (c ++ List.replicate r 0)).take n.toNat).drop (0 : Int).toNat) = ns c := fun n h => by subst h; simp
  refine qL (σ := Int) (fun n => [(3, I n)]) (fun _ => []) (fun n => c.length ≤ n ∧ n ≤ c.length + r) Int.toNat (ns (c ++ List.replicate r 0)).length rfl rfl (by simp; omega) ?_
  intro n ⟨h1, h2⟩ ih
  refine qC rfl (fun h => ?_) (fun h => ?_)
  · refine qXm rfl (by rw [isub_i64 (by omega) (by omega)]; simp; omega) fun v hv _ => ?_
    rw [isub_i64 (by omega) (by omega)] at hv
    refine qC rfl (fun h' => ?_) (fun h' => ?_)
    · subst h'
      refine qB (ih (isub .i64 n 1) ?_ ?_) rfl
      · rw [isub_i64 (by omega) (by omega)]
        refine ⟨?_, by omega⟩
        rcases Int.lt_or_le c.length n with h3 | h3
        · omega
        · exfalso
          have h4 : (n - 1).toNat = c.length - 1 := by omega
          rw [h4, List.getElem?_append_left (by omega), ← List.getLast?_eq_getElem?] at hv
          exact hc hv
      · rw [isub_i64 (by omega) (by omega)]; omega
    · have h3 : n = c.length := by
        rcases Int.lt_or_le c.length n with h3 | h3
        · exfalso
          rw [List.getElem?_append_right (by omega), List.getElem?_replicate] at hv
          split at hv
          · cases hv; exact h' rfl
          · cases hv
        · omega
      exact qSl 1 rfl rfl (szOk_ns _) ⟨by omega, by omega, by simp; omega⟩ (qR rfl ⟨congrArg L (hend n h3), rfl⟩)
  · exact qSl 1 rfl rfl (szOk_ns _) ⟨by omega, by omega, by simp; omega⟩ (qR rfl ⟨congrArg L (hend n (by omega)), rfl⟩)
theorem trim_w {l : List Int} (hl : InR l) (hlen : l.length < 1099511627776) {xs : List VT} (hx : xs = ns l) : EvH tt 131 [.row 0 0] [bk (.row 3 1 xs)] (.win 0 0 0 (dig (val l).toNat).length) [⟨0, 0, false, true, false, .row 3 1 xs⟩] ∧ xs.take (dig (val l).toNat).length = ns (dig (val l).toNat) := by
  obtain ⟨r, hr⟩ := split_dig hl
  have h2 : (dig (val l).toNat).length + r = l.length := by have := congrArg List.length hr; simpa using this.symm
  refine ⟨trim_o r (dig_last _) (by omega) (hx.trans (congrArg ns hr)), ?_⟩
  rw [hx, congrArg ns hr]; simp
theorem signed_e (s : Int) (v : Nat) (h : (dig v).length < 1099511627776) : EvF tt 74 [.v (N s), .v (.sl (ns (dig v)))] (.v (eB (if v = 0 then ⟨0, []⟩ else ⟨s, dig v⟩))) := by
  refine evF (eIn Tryz.func74 rfl rfl ?_)
  refine qK rfl (trim_e (c := dig v) 0 (dig_last v) (by simpa using h) (by simp)) rfl ?_
  have hd := @dig_eq_nil v
  refine qC rfl (fun h => ?_) (fun h => ?_)
  · have h0 : v = 0 := hd.1 (List.length_eq_zero_iff.1 (by simpa using h))
    exact qR rfl ⟨by rw [if_pos h0]; rfl, rfl⟩
  · have h0 : v ≠ 0 := fun e => h (by rw [hd.2 e]; rfl)
    exact qR rfl ⟨by rw [if_neg h0]; rfl, rfl⟩
theorem right_e (a : Big) (hl : a.Digits.length < 1099511627776) : EvF tt 29 [.v (eB a)] (B (rightb a)) := by
  refine evF (eIn Tryz.func29 rfl rfl ?_)
  have hlm : (ns a.Digits).length = a.Digits.length := List.length_map ..
  refine qL (σ := Int) (fun i => [(12, I i)]) (fun _ => []) (fun i => ∃ k : Nat, i = k ∧ k ≤ a.Digits.length ∧ (a.Digits.take k).all okd = true) (fun i => a.Digits.length - i.toNat) 0 rfl rfl ⟨0, rfl, by omega, by simp⟩ ?_
  rintro i ⟨k, rfl, hk, ho⟩ ih
  refine qC rfl (fun h => ?_) (fun h => ?_)
  · rw [hlm] at h
    refine qXm rfl ⟨by omega, by omega⟩ fun d hd _ => ?_
    rw [Int.toNat_natCast] at hd
    have hmem : d ∈ a.Digits := List.mem_of_getElem? hd
    have hbad : ¬ okd d = true → rightb a = false := fun h => by
      have : a.Digits.all okd = false := by rw [List.all_eq_false]; exact ⟨d, hmem, h⟩
      unfold rightb; rw [this]; rfl
    refine qC rfl (fun h1 => ?_) (fun h1 => ?_)
    · exact qR rfl ⟨by rw [hbad (by unfold okd; simp; omega)]; rfl, rfl⟩
    · refine qC rfl (fun h2 => ?_) (fun h2 => ?_)
      · exact qR rfl ⟨by rw [hbad (by unfold okd; simp; omega)]; rfl, rfl⟩
      · refine qB (ih _ ⟨k + 1, by rw [iadd_i64 (by omega) (by omega)]; omega, by omega, ?_⟩ (by rw [iadd_i64 (by omega) (by omega)]; omega)) rfl
        rw [List.take_add_one, hd]; simp [ho, okd]; omega
  · rw [hlm] at h
    have hk2 : k = a.Digits.length := by omega
    subst hk2
    rw [List.take_length] at ho
    refine qC rfl (fun h1 => ?_) (fun h1 => ?_)
    · rw [hlm] at h1
      have h2 : a.Digits = [] := List.length_eq_zero_iff.1 (by omega)
      refine qR rfl ⟨?_, rfl⟩
      unfold rightb; rw [ho, if_pos h2]; rfl
    · rw [hlm] at h1
      have h2 : a.Digits ≠ [] := fun e => h1 (by rw [e]; rfl)
      have hr : rightb a = ((a.Sign == 1 || a.Sign == -1) && (a.Digits.getLast?.getD 0 != 0)) := by unfold rightb; rw [ho, if_neg h2, Bool.true_and]
      have hb : 0 ≤ isub .i64 (ns a.Digits).length 1 ∧ isub .i64 (ns a.Digits).length 1 < a.Digits.length := by rw [hlm, isub_i64 (by omega) (by omega)]; omega
      have hg : ∀ v, a.Digits[(isub .i64 (ns a.Digits).length 1).toNat]? = some v → a.Digits.getLast? = some v := fun v hv => by
        rw [hlm, isub_i64 (by omega) (by omega), show ((a.Digits.length : Int) - 1).toNat = a.Digits.length - 1 by omega] at hv
        rw [List.getLast?_eq_getElem?]; exact hv
      rw [hr]
      refine qC rfl (fun h3 => ?_) (fun h3 => ?_)
      · refine qXm rfl hb fun v hv _ => ?_
        refine qR rfl ⟨?_, rfl⟩
        rw [hg v hv, h3]; rfl
      · refine qC rfl (fun h4 => ?_) (fun h4 => ?_)
        · refine qXm rfl hb fun v hv _ => ?_
          refine qR rfl ⟨?_, rfl⟩
          rw [hg v hv, h4]; rfl
        · refine qR rfl ⟨?_, rfl⟩
          rw [beq_eq_false_iff_ne.2 h3, beq_eq_false_iff_ne.2 h4]; rfl
theorem compare_e {a b : List Int} (ha : Canon a) (hb : Canon b) (hla : a.length < 1099511627776) : EvF tt 129 [.v (.sl (ns a)), .v (.sl (ns b))] (I (sg (val a - val b))) := by
  refine evF (eIn Tryz.func129 rfl rfl ?_)
  have hlm : (ns a).length = a.length := List.length_map ..
  have hlm2 : (ns b).length = b.length := List.length_map ..
  refine qC rfl (fun h => ?_) (fun h => ?_)
  · rw [hlm, hlm2] at h
    refine qK rfl (cmp_e _ _) rfl (qR rfl ⟨?_, rfl⟩)
    rw [hlm, hlm2]
    refine congrArg I ?_
    have hs := sg_cases (val a - val b)
    have hs2 := sg_cases ((a.length : Int) - b.length)
    rcases Nat.lt_or_ge a.length b.length with h | h
    · have := val_lt_of_len ha.1 hb h; omega
    · have := val_lt_of_len hb.1 ha (by omega); omega
  · have hl : a.length = b.length := by omega
    refine qL (σ := Int) (fun i => [(5, I i)]) (fun _ => []) (fun i => ∃ k : Nat, i = (k : Int) - 1 ∧ k ≤ a.length ∧ cmpD (a.drop k) (b.drop k) = 0) (fun i => (i + 1).toNat) (isub .i64 (ns a).length 1) rfl rfl ⟨a.length, by rw [hlm, isub_i64 (by omega) (by omega)], by omega, by rw [List.drop_length, hl, List.drop_length]; rfl⟩ ?_
    rintro i ⟨k, rfl, hk, h0⟩ ih
    refine qC rfl (fun h1 => ?_) (fun h1 => ?_)
    · obtain ⟨k, rfl⟩ : ∃ j, k = j + 1 := ⟨k - 1, by omega⟩
      have e1 : (((k + 1 : Nat) : Int) - 1).toNat = k := by omega
      refine qXm rfl ⟨by omega, by omega⟩ fun x hx hx1 => ?_
      refine qXm rfl ⟨by omega, by omega⟩ fun y hy hy1 => ?_
      rw [e1] at hx hy
      have e2 : cmpD (a.drop k) (b.drop k) = sg (x - y) := by
        obtain ⟨q1, q2⟩ := List.getElem?_eq_some_iff.1 hx
        obtain ⟨q3, q4⟩ := List.getElem?_eq_some_iff.1 hy
        rw [List.drop_eq_getElem_cons q1, List.drop_eq_getElem_cons q3, q2, q4]; simp only [cmpD, h0, if_true]
      refine qE rfl (by kernel_rfl) (by kernel_rfl) ?_
      refine qC rfl (fun h2 => ?_) (fun h2 => ?_)
      · refine qXm rfl ⟨by omega, by omega⟩ fun x' hx' _ => ?_
        refine qXm rfl ⟨by omega, by omega⟩ fun y' hy' _ => ?_
        rw [e1] at hx' hy'
        rw [hx] at hx'; rw [hy] at hy'; cases hx'; cases hy'
        refine qK rfl (cmp_e x y) rfl ?_
        have hs := sg_cases (x - y)
        have e3 : cmpD a b = sg (x - y) := by rw [cmpD_drop k a b (by rw [e2]; omega), e2]
        refine qE rfl (by kernel_rfl) (by kernel_rfl) ?_
        exact qR rfl ⟨by rw [← cmpD_val ha.1 hb.1 hl, e3]; rfl, rfl⟩
      · have h2 : x = y := Classical.byContradiction h2
        refine qB (ih _ ⟨k, by rw [isub_i64 (by omega) (by omega)]; omega, by omega, ?_⟩ (by rw [isub_i64 (by omega) (by omega)]; omega)) rfl
        rw [e2, h2]; simp [sg]
    · have hk0 : k = 0 := by omega
      subst hk0
      simp only [List.drop_zero] at h0
      exact qR rfl ⟨by rw [← cmpD_val ha.1 hb.1 hl, h0]; rfl, rfl⟩
end Go.Proofs.YteekaonhdckicaaGreatDoor.Dp

namespace Go.Proofs.YteekaonhdckicaaGreatDoor.Dp
open Go Go.RowKit Go.Proofs.YteekaonhdckicaaGreatDoor.Rt Go.Proofs Go.Proofs.YteekaonhdckicaaGreatDoor.D
set_option linter.unusedVariables false
set_option maxHeartbeats 4000000
set_option maxRecDepth 100000
theorem hlm (l : List Int) : (ns l).length = l.length := List.length_map ..
theorem ns_set (l : List Int) (k : Nat) (x : Int) : (ns l).set k (N x) = ns (l.set k x) := (List.map_set ..).symm
theorem set_mid {α : Type} (p : List α) (x y : α) (s : List α) {k : Nat} (hk : k = p.length) : (p ++ x :: s).set k y = p ++ y :: s := by
  subst hk; simp
theorem rep_cons (n : Nat) (x : Int) (h : 0 < n) : List.replicate n x = x :: List.replicate (n - 1) x := by
  obtain ⟨m, rfl⟩ : ∃ m, n = m + 1 := ⟨n - 1, by omega⟩
  rfl
theorem add_e {a b : List Int} (ha : InR a) (hb : InR b) (hla : a.length < 1073741824) (hlb : b.length < 1073741824) : EvF tt 146 [.v (.sl (ns a)), .v (.sl (ns b))] (L (ns (dig (val a + val b).toNat))) := by
  refine evF (eIn Tryz.func146 rfl rfl ?_)
  obtain ⟨V, hV⟩ : ∃ V, V = val a + val b := ⟨_, rfl⟩
  rw [← hV]
  refine qC rfl (fun h => ?_) (fun h => ?_)
  all_goals rw [hlm, hlm] at h
  case' refine_1 => obtain ⟨x, y, hx, hy, hlx, hle, hv, e1, e2⟩ : ∃ x y, InR x ∧ InR y ∧ x.length < 1073741824 ∧ y.length ≤ x.length ∧ V = val x + val y ∧ x = b ∧ y = a := ⟨b, a, hb, ha, hlb, by omega, by omega, rfl, rfl⟩
  case' refine_2 => obtain ⟨x, y, hx, hy, hlx, hle, hv, e1, e2⟩ : ∃ x y, InR x ∧ InR y ∧ x.length < 1073741824 ∧ y.length ≤ x.length ∧ V = val x + val y ∧ x = a ∧ y = b := ⟨a, b, ha, hb, hla, by omega, by omega, rfl, rfl⟩
  all_goals
    clear h hV ha hb hla hlb
    subst e1 e2
    have hx1 : (iadd .i64 (ns x).length 1) = (x.length : Int) + 1 := by rw [hlm, iadd_i64 (by omega) (by omega)]
    refine qM 8 rfl rfl ⟨by rw [hx1]; omega, by rw [hx1]; omega⟩ ?_
    refine qL (σ := Int × Int × List VT) (fun s => [(22, I s.1), (6, I s.2.1)]) (fun s => [(0, .row 3 1 s.2.2)])
      (fun s => ∃ (k : Nat) (pre : List Int), s.1 = k ∧ pre.length = k ∧ k ≤ x.length ∧ 0 ≤ s.2.1 ∧ s.2.1 ≤ 1 ∧ s.2.2 = ns (pre ++ List.replicate (x.length + 1 - k) 0) ∧ addD 0 x y = (pre ++ (addD s.2.1 (x.drop k) (y.drop k)).1, (addD s.2.1 (x.drop k) (y.drop k)).2))
      (fun s => x.length - s.1.toNat) (0, 0, List.replicate (iadd .i64 (ns x).length 1).toNat (N 0)) rfl rfl ⟨0, [], rfl, rfl, by omega, Int.le_refl 0, by show (0 : Int) ≤ 1; decide, by rw [hx1, show ((x.length : Int) + 1).toNat = x.length + 1 by omega]; simp, by simp⟩ ?_
    rintro ⟨i, c, xs⟩ ⟨k, pre, hi, hp, hk, h0, h1, hxs, hadd⟩ ih
    dsimp only at hi h0 h1 hxs hadd
    subst hi hxs
    refine qC rfl (fun h => ?_) (fun h => ?_)
    · rw [hlm] at h
      refine qXm rfl ⟨by omega, by omega⟩ fun d hd _ => ?_
      rw [Int.toNat_natCast] at hd
      obtain ⟨q1, q2⟩ := List.getElem?_eq_some_iff.1 hd
      have hdx : x.drop k = d :: x.drop (k + 1) := by rw [List.drop_eq_getElem_cons q1, q2]
      have hd0 := (hdx ▸ InR.drop hx k).head
      have hy0 := (InR.drop hy k).headD
      have hrep : List.replicate (x.length + 1 - k) (0 : Int) = 0 :: List.replicate (x.length + 1 - (k + 1)) 0 := by rw [rep_cons _ _ (by omega)]; congr 2
      have hnext : ∀ t, t = c + d + (y.drop k).headD 0 → ∃ (k' : Nat) (pre' : List Int), iadd .i64 (k : Int) 1 = k' ∧ pre'.length = k' ∧ k' ≤ x.length ∧ 0 ≤ t / 1048576 ∧ t / 1048576 ≤ 1 ∧ (ns (pre ++ List.replicate (x.length + 1 - k) 0)).set (k : Int).toNat (N (iand .i64 t 1048575)) = ns (pre' ++ List.replicate (x.length + 1 - k') 0) ∧ addD 0 x y = (pre' ++ (addD (t / 1048576) (x.drop k') (y.drop k')).1, (addD (t / 1048576) (x.drop k') (y.drop k')).2) := by
        intro t ht
        refine ⟨k + 1, pre ++ [t % 1048576], by rw [iadd_i64 (by omega) (by omega)]; omega, by simp [hp], by omega, by omega, by omega, ?_, ?_⟩
        · rw [iand_mask, ns_set, hrep, Int.toNat_natCast, set_mid _ _ _ _ hp.symm]; simp
        · rw [hadd, hdx]
          simp only [addD, ← ht, List.append_assoc, List.singleton_append, List.tail_drop]
      refine qC rfl (fun h2 => ?_) (fun h2 => ?_)
      · rw [hlm] at h2
        refine qXm rfl ⟨by omega, by omega⟩ fun e he _ => ?_
        rw [Int.toNat_natCast] at he
        obtain ⟨q3, q4⟩ := List.getElem?_eq_some_iff.1 he
        have hdy : (y.drop k).headD 0 = e := by rw [List.drop_eq_getElem_cons q3, q4]; rfl
        rw [hdy] at hy0
        refine qXm rfl ⟨by omega, by simp; omega⟩ fun _ _ _ => qV rfl (shr_i64 _) (qB (ih (_, _, _) (hnext (iadd .i64 (iadd .i64 c d) e) ?_) (by show x.length - (iadd .i64 (k : Int) 1).toNat < x.length - (k : Int).toNat; rw [iadd_i64 (by omega) (by omega)]; omega)) (by kernel_rfl))
        rw [hdy, iadd_i64 (x := c) (by omega) (by omega), iadd_i64 (by omega) (by omega)]
      · rw [hlm] at h2
        have hdy : (y.drop k).headD 0 = 0 := by rw [List.drop_eq_nil_of_le (by omega)]; rfl
        refine qXm rfl ⟨by omega, by simp; omega⟩ fun _ _ _ => qV rfl (shr_i64 _) (qB (ih (_, _, _) (hnext (iadd .i64 c d) ?_) (by show x.length - (iadd .i64 (k : Int) 1).toNat < x.length - (k : Int).toNat; rw [iadd_i64 (by omega) (by omega)]; omega)) (by kernel_rfl))
        rw [hdy, iadd_i64 (x := c) (by omega) (by omega)]; omega
    · rw [hlm] at h
      obtain rfl : k = x.length := by omega
      have e2 := addD_len x y 0
      have e3 := addD_carry x y 0 hx hy (by decide) (by decide)
      have e4 := addD_val x y 0 hle
      have hpre : addD 0 x y = (pre, c) := by rw [hadd, List.drop_length]; simp [addD]
      rw [hpre] at e2 e3 e4
      refine qXm rfl ⟨by rw [hlm]; omega, by rw [hlm]; simp; omega⟩ fun _ _ _ => ?_
      have hout : (ns (pre ++ List.replicate (x.length + 1 - x.length) 0)).set ((ns x).length : Int).toNat (N c) = ns (pre ++ [c]) := by
        rw [ns_set, hlm, show x.length + 1 - x.length = 1 by omega, Int.toNat_natCast]
        show ns ((pre ++ [0]).set _ c) = _
        rw [set_mid _ _ _ _ hp.symm]
      have hin := addD_in x y 0
      rw [hpre] at hin
      have hval : val (pre ++ [c]) = V := by
        rw [← valc_append]
        simp only [val, Int.mul_zero, Int.add_zero]
        rw [e4, hv]; omega
      obtain ⟨k1, k2⟩ := trim_w (l := pre ++ [c]) (hin.append (InR.cons e3.1 (by omega) InR.nil)) (by simp; omega) hout
      rw [hval] at k1 k2
      refine qK rfl k1 rfl (qR rfl ⟨?_, rfl⟩)
      show L (List.take _ (List.drop 0 _)) = _
      rw [List.drop_zero]; exact congrArg L k2
theorem drop_at {l : List Int} {k : Nat} {d : Int} (hd : l[k]? = some d) : l.drop k = d :: l.drop (k + 1) := by
  obtain ⟨q1, q2⟩ := List.getElem?_eq_some_iff.1 hd
  rw [List.drop_eq_getElem_cons q1, q2]
theorem inc_k {k n : Nat} (h : (k : Int) < n) (hn : n < 4611686018427387904) : iadd .i64 (k : Int) 1 = ((k + 1 : Nat) : Int) ∧ n - (iadd .i64 (k : Int) 1).toNat < n - (k : Int).toNat := by
  rw [iadd_i64 (by omega) (by omega)]; omega
theorem sub_e {a b : List Int} (ha : InR a) (hb : InR b) (hla : a.length < 1073741824) (hlb : b.length ≤ a.length) (h : val b ≤ val a) : EvF tt 189 [.v (.sl (ns a)), .v (.sl (ns b))] (L (ns (dig (val a - val b).toNat))) := by
  refine evF (eIn Tryz.func189 rfl rfl ?_)
  refine qU 1 8 rfl rfl rfl (szOk_ns _) ?_
  refine qL (σ := Int × Int × List VT) (fun s => [(13, I s.1), (6, I s.2.1)]) (fun s => [(0, .row 3 1 s.2.2)])
    (fun s => ∃ (k : Nat) (pre : List Int), s.1 = k ∧ pre.length = k ∧ k ≤ a.length ∧ 0 ≤ s.2.1 ∧ s.2.1 ≤ 1 ∧ s.2.2 = ns (pre ++ a.drop k) ∧ setD 1 0 a b = (pre ++ (setD 1 s.2.1 (a.drop k) (b.drop k)).1, (setD 1 s.2.1 (a.drop k) (b.drop k)).2))
    (fun s => a.length - s.1.toNat) (0, 0, ns a) rfl rfl ⟨0, [], rfl, rfl, by omega, Int.le_refl 0, by show (0 : Int) ≤ 1; decide, rfl, rfl⟩ ?_
  rintro ⟨i, c, xs⟩ ⟨k, pre, hi, hp, hk, h0, h1, hxs, hset⟩ ih
  dsimp only at hi h0 h1 hxs hset
  subst hi hxs
  refine qC rfl (fun h2 => ?_) (fun h2 => ?_)
  · rw [show (Src.ys { ys := ns a, zs := [], rd := [], chk := true }).length = a.length from hlm a] at h2
    have hlen : (pre ++ a.drop k).length = a.length := by simp [hp]; omega
    refine qXm rfl ⟨by omega, by omega⟩ fun d hd _ => ?_
    rw [Int.toNat_natCast, List.getElem?_append_right (by omega), hp, Nat.sub_self, List.getElem?_drop, Nat.add_zero] at hd
    have hdx := drop_at hd
    have hd0 := (hdx ▸ InR.drop ha k).head
    have hy0 := (InR.drop hb k).headD
    have hinc := inc_k h2 (by omega)
    have hnext : ∀ t, t = d - c - (b.drop k).headD 0 → ∃ (k' : Nat) (pre' : List Int), iadd .i64 (k : Int) 1 = k' ∧ pre'.length = k' ∧ k' ≤ a.length ∧ 0 ≤ iand .i64 (t / 1048576) 1 ∧ iand .i64 (t / 1048576) 1 ≤ 1 ∧ (ns (pre ++ a.drop k)).set (k : Int).toNat (N (iand .i64 t 1048575)) = ns (pre' ++ a.drop k') ∧ setD 1 0 a b = (pre' ++ (setD 1 (iand .i64 (t / 1048576) 1) (a.drop k') (b.drop k')).1, (setD 1 (iand .i64 (t / 1048576) 1) (a.drop k') (b.drop k')).2) := by
      intro t ht
      obtain ⟨b1, b2, b3⟩ := sub_step h0 h1 hd0.1 hd0.2 hy0.1 hy0.2 ht
      rw [iand_one, b1]
      refine ⟨k + 1, pre ++ [t % 1048576], hinc.1, by simp [hp], by omega, by omega, by omega, ?_, ?_⟩
      · rw [iand_mask, ns_set, hdx, Int.toNat_natCast, set_mid _ _ _ _ hp.symm]; simp
      · rw [hset, hdx]
        have e8 : d - c - 1 * (b.drop k).headD 0 = t := by rw [ht, Int.one_mul]
        simp only [setD, e8, List.append_assoc, List.singleton_append, List.tail_drop]
    refine qC rfl (fun h3 => ?_) (fun h3 => ?_)
    · rw [hlm] at h3
      refine qXm rfl ⟨by omega, by omega⟩ fun e he _ => ?_
      rw [Int.toNat_natCast] at he
      have hdy : (b.drop k).headD 0 = e := by rw [drop_at he]; rfl
      rw [hdy] at hy0
      refine qV rfl (shr_i64 _) (qXm rfl ⟨by omega, by omega⟩ fun _ _ _ => qB (ih (_, _, _) (hnext (isub .i64 (isub .i64 d c) e) ?_) hinc.2) (by kernel_rfl))
      rw [hdy, isub_i64 (x := d) (by omega) (by omega), isub_i64 (by omega) (by omega)]
    · rw [hlm] at h3
      have hdy : (b.drop k).headD 0 = 0 := by rw [List.drop_eq_nil_of_le (by omega)]; rfl
      refine qV rfl (shr_i64 _) (qXm rfl ⟨by omega, by omega⟩ fun _ _ _ => qB (ih (_, _, _) (hnext (isub .i64 d c) ?_) hinc.2) (by kernel_rfl))
      rw [hdy, isub_i64 (x := d) (by omega) (by omega)]; omega
  · rw [show (Src.ys { ys := ns a, zs := [], rd := [], chk := true }).length = a.length from hlm a] at h2
    obtain rfl : k = a.length := by omega
    have h2 := setD_exact (g := 1) ha hb hlb (by decide) (by omega)
    rw [hset, List.drop_length] at h2
    simp only [setD, List.append_nil, Int.one_mul] at h2
    have hin := setD_in 1 a b 0
    rw [hset, List.drop_length] at hin
    simp only [setD, List.append_nil] at hin
    obtain ⟨k1, k2⟩ := trim_w (l := pre) hin (by omega) (show ns (pre ++ a.drop a.length) = ns pre by rw [List.drop_length, List.append_nil])
    rw [h2.2] at k1 k2
    refine qK rfl k1 rfl (qR rfl ⟨?_, rfl⟩)
    show L (List.take _ (List.drop 0 _)) = _
    rw [List.drop_zero]; exact congrArg L k2
theorem short_e {a : List Int} {d : Int} (ha : InR a) (hla : a.length < 1073741824) (hd : 0 < d) (hd1 : d ≤ 1048576) : EvF tt 130 [.v (.sl (ns a)), .v (N d)] (.tup [L (ns (dig (val a / d).toNat)), I (val a % d)]) := by
  refine evF (eIn Tryz.func130 rfl rfl ?_)
  refine qM 8 rfl rfl ⟨by rw [hlm]; omega, by rw [hlm]; omega⟩ ?_
  refine qL (σ := Int × Int × List VT) (fun s => [(8, I s.1), (7, I s.2.1)]) (fun s => [(0, .row 3 1 s.2.2)])
    (fun s => ∃ (k : Nat), s.1 = (k : Int) - 1 ∧ k ≤ a.length ∧ s.2.2 = ns (List.replicate k 0 ++ (longD d (a.drop k) 0).1) ∧ s.2.1 = (longD d (a.drop k) 0).2)
    (fun s => (s.1 + 1).toNat) (isub .i64 (ns a).length 1, 0, List.replicate ((ns a).length : Int).toNat (N 0)) rfl rfl ⟨a.length, by rw [hlm]; show isub .i64 _ 1 = _; rw [isub_i64 (by omega) (by omega)], by omega, by rw [List.drop_length, hlm]; simp [longD], by rw [List.drop_length]; rfl⟩ ?_
  rintro ⟨i, r, xs⟩ ⟨k, hi, hk, hxs, hr⟩ ih
  dsimp only at hi hxs hr
  subst hi hxs hr
  refine qC rfl (fun h2 => ?_) (fun h2 => ?_)
  · obtain ⟨k, rfl⟩ : ∃ j, k = j + 1 := ⟨k - 1, by omega⟩
    have e0 : ((k + 1 : Nat) : Int) - 1 = (k : Int) := by omega
    have hr := longD_rem hd (a.drop (k + 1)) 0 (by decide) hd
    refine qV rfl (shl_i64 (by show _ ≤ (longD d (a.drop (k + 1)) 0).2; omega) (by show (longD d (a.drop (k + 1)) 0).2 < _; omega)) ?_
    refine qXm rfl ⟨by omega, by omega⟩ fun x hx _ => ?_
    rw [e0, Int.toNat_natCast] at hx
    have hdx := drop_at hx
    have hx0 := (hdx ▸ InR.drop ha k).head
    have e3 : 0 ≤ (longD d (a.drop (k + 1)) 0).2 * 1048576 + x := by omega
    have e4 : ior .i64 ((longD d (a.drop (k + 1)) 0).2 * 1048576) x = (longD d (a.drop (k + 1)) 0).2 * 1048576 + x := ior_i64 hr.1 (by omega) hx0.1 hx0.2
    have e5 : quo .i64 (ior .i64 ((longD d (a.drop (k + 1)) 0).2 * 1048576) x) d = some (((longD d (a.drop (k + 1)) 0).2 * 1048576 + x) / d) := by rw [e4]; exact quo_i64 e3 (by omega) hd
    have e6 : rem (ior .i64 ((longD d (a.drop (k + 1)) 0).2 * 1048576) x) d = some (((longD d (a.drop (k + 1)) 0).2 * 1048576 + x) % d) := by rw [e4]; exact rem_pos e3 hd
    refine qV rfl e5 (qXm rfl ⟨by omega, by simp; omega⟩ fun _ _ _ => qV rfl e6 ?_)
    refine qB (ih (isub .i64 (((k + 1 : Nat) : Int) - 1) 1, ((longD d (a.drop (k + 1)) 0).2 * 1048576 + x) % d, (ns (List.replicate (k + 1) 0 ++ (longD d (a.drop (k + 1)) 0).1)).set (((k + 1 : Nat) : Int) - 1).toNat (N (((longD d (a.drop (k + 1)) 0).2 * 1048576 + x) / d))) ⟨k, ?_, ?_, ?_, ?_⟩ ?_) (by kernel_rfl)
    · show isub .i64 _ 1 = _; rw [isub_i64 (by omega) (by omega)]; omega
    · omega
    · show List.set _ _ _ = _
      rw [e0, Int.toNat_natCast, ns_set, List.replicate_succ', List.append_assoc, List.singleton_append, set_mid _ _ _ _ (by simp), hdx]; rfl
    · rw [hdx]; rfl
    · show (isub .i64 _ 1 + 1).toNat < _; rw [isub_i64 (by omega) (by omega)]; dsimp only; omega
  · obtain rfl : k = 0 := by omega
    have h3 := longD_val (V := d) a 0
    have h4 := longD_rem hd a 0 (by decide) hd
    have h5 := longD_in hd a 0 ha (by decide) hd
    have h6 := longD_len d a 0
    obtain ⟨k1, k2⟩ := trim_w (l := (longD d a 0).1) h5 (by omega) (show ns (List.replicate 0 0 ++ (longD d (a.drop 0) 0).1) = ns (longD d a 0).1 from rfl)
    have h7 : valc a 0 = val a := by rw [valc_eq]; simp
    rw [h7] at h3
    have h8 : val (longD d a 0).1 = val a / d ∧ (longD d a 0).2 = val a % d := by
      have := Int.ediv_emod_unique hd (a := val a) (r := (longD d a 0).2) (q := val (longD d a 0).1)
      obtain ⟨q1, q2⟩ := this.2 ⟨by rw [← h3, Int.mul_comm]; omega, h4.1, h4.2⟩
      exact ⟨q1.symm, q2.symm⟩
    rw [h8.1] at k1 k2
    refine qK rfl k1 rfl (qR rfl ⟨?_, rfl⟩)
    show DV.tup [L (List.take _ (List.drop 0 _)), I (longD d (a.drop 0) 0).2] = _
    rw [List.drop_zero, List.drop_zero, h8.2]
    exact congrArg (fun l => DV.tup [L l, I (val a % d)]) k2
theorem mul_e {a b : List Int} (ha : InR a) (hb : InR b) (hla : a.length < 536870912) (hlb : b.length < 536870912) : ∃ l : List Int, l.take (dig (val a * val b).toNat).length = dig (val a * val b).toNat ∧ EvH tt 132 [.v (.sl (ns a)), .v (.sl (ns b))] [] (.win 0 0 0 (dig (val a * val b).toNat).length) [⟨0, 0, false, true, true, .row 3 1 (ns l)⟩] := by
  have hF1 := mulF_val b a (List.replicate b.length 0) (by simp)
  have hF2 := mulF_len b a (List.replicate b.length 0) (by simp)
  have hF3 := mulF_in hb a (List.replicate b.length 0) ha (InR.rep _)
  rw [val_rep, Int.zero_add] at hF1
  obtain ⟨k1, k2⟩ := trim_w hF3 (by omega) rfl
  rw [hF1] at k1 k2
  refine ⟨mulF b a (List.replicate b.length 0), ?_, evF (eIn Tryz.func132 rfl rfl ?_)⟩
  · have h3 : ns ((mulF b a (List.replicate b.length 0)).take (dig (val a * val b).toNat).length) = ns (dig (val a * val b).toNat) := by rw [← k2]; exact List.map_take ..
    exact (List.map_inj_right (f := N) (fun x y h => by cases h; rfl)).1 h3
  have hab : iadd .i64 (ns a).length (ns b).length = ((a.length + b.length : Nat) : Int) := by rw [hlm, hlm, iadd_i64 (by omega) (by omega)]; omega
  refine qM 8 rfl rfl ⟨by rw [hab]; omega, by rw [hab]; omega⟩ ?_
  refine qL (σ := Int × List VT) (fun s => [(20, I s.1)]) (fun s => [(0, .row 3 1 s.2)])
    (fun s => ∃ (k : Nat) (pre w : List Int), s.1 = k ∧ pre.length = k ∧ k ≤ a.length ∧ w.length = b.length ∧ InR w ∧ s.2 = ns (pre ++ (w ++ List.replicate (a.length - k) 0)) ∧ mulF b a (List.replicate b.length 0) = pre ++ mulF b (a.drop k) w)
    (fun s => a.length - s.1.toNat) (0, List.replicate (iadd .i64 (ns a).length (ns b).length).toNat (N 0)) rfl rfl ⟨0, [], List.replicate b.length 0, rfl, rfl, by omega, by simp, InR.rep _, by rw [hab]; simp; omega, rfl⟩ ?_
  rintro ⟨i, xs⟩ ⟨k, pre, w, hi, hp, hk, hw, hwi, hxs, hm⟩ ih
  dsimp only at hi hxs
  subst hi hxs
  refine qC rfl (fun h2 => ?_) (fun h2 => ?_)
  · rw [hlm] at h2
    refine qXm rfl ⟨by omega, by omega⟩ fun x hx _ => ?_
    rw [Int.toNat_natCast] at hx
    have hdx := drop_at hx
    have hx0 := (hdx ▸ InR.drop ha k).head
    refine qI ?_
    refine qL (σ := Int × Int × List VT) (fun s => [(27, I s.1), (8, I s.2.1)]) (fun s => [(0, .row 3 1 s.2.2)])
      (fun s => ∃ (j : Nat) (q : List Int), s.1 = j ∧ q.length = j ∧ j ≤ b.length ∧ 0 ≤ s.2.1 ∧ s.2.1 < 1048576 ∧ s.2.2 = ns (pre ++ (q ++ (w.drop j ++ List.replicate (a.length - k) 0))) ∧ mulD x 0 b w = (q ++ (mulD x s.2.1 (b.drop j) (w.drop j)).1, (mulD x s.2.1 (b.drop j) (w.drop j)).2))
      (fun s => b.length - s.1.toNat) (0, 0, ns (pre ++ (w ++ List.replicate (a.length - k) 0))) rfl rfl ⟨0, [], rfl, rfl, by omega, Int.le_refl 0, by show (0 : Int) < 1048576; decide, rfl, rfl⟩ ?_
    rintro ⟨j', c, ys⟩ ⟨j, q, hj, hq, hjb, h0, h1, hys, hD⟩ ih2
    dsimp only at hj h0 h1 hys hD
    subst hj hys
    have hlen : (pre ++ (q ++ (w.drop j ++ List.replicate (a.length - k) (0 : Int)))).length = a.length + b.length := by simp; omega
    refine qC rfl (fun h3 => ?_) (fun h3 => ?_)
    · rw [hlm] at h3
      have hinc := inc_k h3 (by omega)
      refine qXm rfl ⟨by omega, by omega⟩ fun y hy _ => ?_
      rw [Int.toNat_natCast] at hy
      have hdy := drop_at hy
      have hy0 := (hdy ▸ InR.drop hb j).head
      have e5 : iadd .i64 (k : Int) (j : Int) = ((k + j : Nat) : Int) := by rw [iadd_i64 (by omega) (by omega)]; omega
      have hb5 : 0 ≤ iadd .i64 (k : Int) (j : Int) ∧ iadd .i64 (k : Int) (j : Int) < (pre ++ (q ++ (w.drop j ++ List.replicate (a.length - k) (0 : Int)))).length := by rw [e5]; omega
      refine qXm rfl hb5 fun v hv _ => ?_
      obtain ⟨z, hz⟩ : ∃ z, w[j]? = some z := ⟨_, List.getElem?_eq_getElem (by omega)⟩
      have hdz := drop_at hz
      have hz0 := (hdz ▸ InR.drop hwi j).head
      have hvz : v = z := by
        have hv : (pre ++ (q ++ (w.drop j ++ List.replicate (a.length - k) (0 : Int))))[(iadd .i64 (k : Int) (j : Int)).toNat]? = some v := hv
        rw [e5, Int.toNat_natCast, List.getElem?_append_right (by omega), List.getElem?_append_right (by omega), hdz, show k + j - pre.length - q.length = 0 by omega] at hv
        simpa using hv.symm
      subst hvz
      have hmul := dig_mul_dig hx0.1 hx0.2 hy0.1 hy0.2
      have e6 : iadd .i64 (iadd .i64 v (imul .i64 x y)) c = v + x * y + c := by rw [imul_i64 (by omega) (by omega), iadd_i64 (x := v) (by omega) (by omega), iadd_i64 (by omega) (by omega)]
      refine qV rfl (shr_i64 _) (qXm rfl hb5 fun _ _ _ => ?_)
      refine qB (ih2 (iadd .i64 (j : Int) 1, (iadd .i64 (iadd .i64 v (imul .i64 x y)) c) / 1048576, (ns (pre ++ (q ++ (w.drop j ++ List.replicate (a.length - k) 0)))).set (iadd .i64 (k : Int) (j : Int)).toNat (N (iand .i64 (iadd .i64 (iadd .i64 v (imul .i64 x y)) c) 1048575))) ⟨j + 1, q ++ [(v + x * y + c) % 1048576], hinc.1, by simp [hq], by omega, ?_, ?_, ?_, ?_⟩ hinc.2) (by kernel_rfl)
      · dsimp only; rw [e6]; omega
      · dsimp only; rw [e6]; omega
      · dsimp only
        rw [e6, iand_mask, ns_set, e5, Int.toNat_natCast, hdz, List.cons_append, ← List.append_assoc pre q, set_mid _ _ _ _ (by simp; omega)]
        simp
      · rw [hD, hdy, hdz]
        simp only [mulD, List.headD_cons, List.tail_cons, e6, List.append_assoc, List.singleton_append]
    · rw [hlm] at h3
      obtain rfl : j = b.length := by omega
      have hD2 : mulD x 0 b w = (q, c) := by rw [hD, List.drop_length]; simp [mulD]
      have e5 : iadd .i64 (k : Int) (ns b).length = ((k + b.length : Nat) : Int) := by rw [hlm, iadd_i64 (by omega) (by omega)]; omega
      have hb5 : 0 ≤ iadd .i64 (k : Int) (ns b).length ∧ iadd .i64 (k : Int) (ns b).length < (pre ++ (q ++ (w.drop b.length ++ List.replicate (a.length - k) (0 : Int)))).length := by rw [e5]; omega
      refine qXm rfl hb5 fun v hv _ => ?_
      have hw0 : w.drop b.length = [] := List.drop_eq_nil_of_le (by omega)
      have hrep : List.replicate (a.length - k) (0 : Int) = 0 :: List.replicate (a.length - (k + 1)) 0 := by rw [rep_cons _ _ (by omega)]; congr 2
      have hv0 : v = 0 := by
        have hv : (pre ++ (q ++ (w.drop b.length ++ List.replicate (a.length - k) (0 : Int))))[(iadd .i64 (k : Int) (ns b).length).toNat]? = some v := hv
        rw [e5, Int.toNat_natCast, List.getElem?_append_right (by omega), List.getElem?_append_right (by omega), hw0, hrep, show k + b.length - pre.length - q.length = 0 by omega] at hv
        simpa using hv.symm
      subst hv0
      refine qXm rfl hb5 fun _ _ _ => ?_
      have hc := mulD_carry hx0.1 hx0.2 b w 0 hb hwi (by decide) (by decide)
      have hin : InR ((mulD x 0 b w).1 ++ [(mulD x 0 b w).2]) := (mulD_in x b w 0).append (InR.cons hc.1 hc.2 InR.nil)
      obtain ⟨h, t, ht⟩ := List.exists_cons_of_ne_nil (show (mulD x 0 b w).1 ++ [(mulD x 0 b w).2] ≠ [] by simp)
      rw [ht] at hin
      have hFs : mulF b (x :: a.drop (k + 1)) w = h :: mulF b (a.drop (k + 1)) t := by simp only [mulF, ht, List.headD_cons, List.tail_cons]
      rw [hD2] at ht
      have htl : t.length = b.length := by have := congrArg List.length ht; simp at this; omega
      have e7 : iadd .i64 0 c = c := by rw [iadd_i64 (by omega) (by omega)]; omega
      have hinc := inc_k h2 (by omega)
      refine qB (ih (iadd .i64 (k : Int) 1, (ns (pre ++ (q ++ (w.drop b.length ++ List.replicate (a.length - k) 0)))).set (iadd .i64 (k : Int) (ns b).length).toNat (N (iadd .i64 0 c))) ⟨k + 1, pre ++ [h], t, hinc.1, by simp [hp], by omega, htl, hin.tail, ?_, ?_⟩ hinc.2) (by kernel_rfl)
      · dsimp only
        rw [ns_set, e5, Int.toNat_natCast, e7, hw0, List.nil_append, hrep, ← List.append_assoc pre q, set_mid _ _ _ _ (by simp; omega)]
        rw [List.append_assoc, ← List.singleton_append (x := c), ← List.append_assoc q, ht]
        simp
      · rw [hm, hdx, hFs]; simp
  · rw [hlm] at h2
    obtain rfl : k = a.length := by omega
    rw [List.drop_length] at hm
    have hm2 : mulF b a (List.replicate b.length 0) = pre ++ w := hm
    have hx2 : ns (pre ++ (w ++ List.replicate (a.length - a.length) 0)) = ns (mulF b a (List.replicate b.length 0)) := by rw [hm2]; simp
    rw [← hx2] at k1
    refine qK rfl k1 rfl (qR rfl ⟨rfl, ?_⟩)
    show [(⟨0, 0, false, true, true, .row 3 1 (ns (pre ++ (w ++ List.replicate (a.length - a.length) 0)))⟩ : Blk)] = _
    rw [hx2]
end Go.Proofs.YteekaonhdckicaaGreatDoor.Dp

namespace Go.Proofs.YteekaonhdckicaaGreatDoor.Dp
open Go Go.RowKit Go.Proofs.YteekaonhdckicaaGreatDoor.Rt Go.Proofs Go.Proofs.YteekaonhdckicaaGreatDoor.D
set_option linter.unusedVariables false
set_option maxHeartbeats 4000000
set_option maxRecDepth 100000
theorem settle_e {L u R v Z : List Int} {g : Int} (hu : InR u) (hv : InR v) (hl : v.length ≤ u.length) (hlu : L.length + u.length + R.length < 1073741824) (hg0 : 0 ≤ g) (hg1 : g ≤ 1048576) (hV : 0 < val v) (h1 : val u < (g + 1) * val v) (h2 : (g - 1) * val v ≤ val u) :
    ∃ r : List Int, InR r ∧ r.length = u.length ∧ val r = val u % val v ∧ EvH tt 133 [.win 0 0 L.length u.length, .win 1 0 0 v.length, I g] [bk (.row 3 1 (ns (L ++ (u ++ R)))), bk (.row 3 1 (ns (v ++ Z)))] (I (val u / val v)) [⟨0, 0, false, true, false, .row 3 1 (ns (L ++ (r ++ R)))⟩, ⟨0, 0, false, true, false, .row 3 1 (ns (v ++ Z))⟩] := by
  have e1 := setD_len g u v 0
  have hcase : (g * val v ≤ val u ∧ (setD g 0 u v).2 = 0 ∧ val (setD g 0 u v).1 = val u % val v ∧ val u / val v = g) ∨
      ((setD g 0 u v).2 = 1 ∧ InR (addD 0 (setD g 0 u v).1 v).1 ∧ (addD 0 (setD g 0 u v).1 v).1.length = u.length ∧ val (addD 0 (setD g 0 u v).1 v).1 = val u % val v ∧ val u / val v = g - 1) := by
    by_cases h : g * val v ≤ val u
    · obtain ⟨f1, f2⟩ := setD_exact hu hv hl hg0 h
      obtain ⟨q1, q2⟩ := quot_of hV h h1
      exact .inl ⟨h, f1, by rw [f2, q2], q1⟩
    · right
      have e2 := setD_val g u v 0 hl
      have e3 := setD_borrow hg0 u v 0 hu hv (by decide) hg0
      have e4 := val_lt (setD_in g u v 0)
      have e5 := val_nonneg (setD_in g u v 0)
      have e6 := val_lt hv
      have e7 := pw_mono hl
      have e8 := pw_pos u.length
      rw [valc_eq, e1] at e2
      rw [e1] at e4
      have e9 : (g - 1) * val v = g * val v - val v := by grind
      have hb : (setD g 0 u v).2 = 1 := by
        rcases (show 1 < (setD g 0 u v).2 ∨ (setD g 0 u v).2 ≤ 1 by omega) with h4 | h4
        · have h5 : pw u.length * (-(setD g 0 u v).2) ≤ pw u.length * (-2) := Int.mul_le_mul_of_nonneg_left (by omega) (by omega)
          omega
        · rcases (show 0 < (setD g 0 u v).2 ∨ (setD g 0 u v).2 ≤ 0 by omega) with h5 | h5
          · omega
          · have : (setD g 0 u v).2 = 0 := by omega
            rw [this] at e2
            simp only [Int.neg_zero, Int.mul_zero] at e2
            omega
      rw [hb] at e2
      have a1 := addD_len (setD g 0 u v).1 v 0
      have a2 := addD_val (setD g 0 u v).1 v 0 (by rw [e1]; exact hl)
      have a3 := addD_carry (setD g 0 u v).1 v 0 (setD_in g u v 0) hv (by decide) (by decide)
      have a4 := addD_in (setD g 0 u v).1 v 0
      have a5 := val_lt a4
      have a6 := val_nonneg a4
      rw [valc_eq, a1, e1] at a2
      rw [a1, e1] at a5
      obtain ⟨q1, q2⟩ := quot_of (q := g - 1) hV h2 (by rw [show g - 1 + 1 = g by omega]; omega)
      have hc : (addD 0 (setD g 0 u v).1 v).2 = 1 := by
        rcases (show 0 < (addD 0 (setD g 0 u v).1 v).2 ∨ (addD 0 (setD g 0 u v).1 v).2 ≤ 0 by omega) with h5 | h5
        · omega
        · have : (addD 0 (setD g 0 u v).1 v).2 = 0 := by omega
          rw [this] at a2
          omega
      rw [hc] at a2
      exact ⟨hb, a4, by rw [a1, e1], by rw [q2]; omega, q1⟩
  suffices key : ∃ r : List Int, (((setD g 0 u v).2 = 0 ∧ r = (setD g 0 u v).1) ∨ ((setD g 0 u v).2 ≠ 0 ∧ r = (addD 0 (setD g 0 u v).1 v).1)) ∧ EvH tt 133 [.win 0 0 L.length u.length, .win 1 0 0 v.length, I g] [bk (.row 3 1 (ns (L ++ (u ++ R)))), bk (.row 3 1 (ns (v ++ Z)))] (I (if (setD g 0 u v).2 = 0 then g else g - 1)) [⟨0, 0, false, true, false, .row 3 1 (ns (L ++ (r ++ R)))⟩, ⟨0, 0, false, true, false, .row 3 1 (ns (v ++ Z))⟩] by
    obtain ⟨r, hr, hev⟩ := key
    rcases hcase with ⟨c1, c2, c3, c4⟩ | ⟨c1, c2, c3, c4, c5⟩
    · rcases hr with ⟨_, rfl⟩ | ⟨h, _⟩
      · exact ⟨_, setD_in g u v 0, e1, c3, by rw [c4]; rw [if_pos c2] at hev; exact hev⟩
      · exact absurd c2 h
    · rcases hr with ⟨h, _⟩ | ⟨_, rfl⟩
      · rw [c1] at h; exact absurd h (by decide)
      · exact ⟨_, c2, c3, c4, by rw [c5]; rw [if_neg (by rw [c1]; decide)] at hev; exact hev⟩
  refine ⟨if (setD g 0 u v).2 = 0 then (setD g 0 u v).1 else (addD 0 (setD g 0 u v).1 v).1, by split <;> simp_all, evF (eInH 2 Tryz.func133 rfl rfl rfl ?_)⟩
  refine qL (σ := Int × Int × List VT) (fun s => [(14, I s.1), (7, I s.2.1)]) (fun s => [(0, .row 3 1 s.2.2)])
    (fun s => ∃ (k : Nat) (pre : List Int), s.1 = k ∧ pre.length = k ∧ k ≤ u.length ∧ 0 ≤ s.2.1 ∧ s.2.1 ≤ g ∧ s.2.2 = ns (L ++ (pre ++ (u.drop k ++ R))) ∧ setD g 0 u v = (pre ++ (setD g s.2.1 (u.drop k) (v.drop k)).1, (setD g s.2.1 (u.drop k) (v.drop k)).2))
    (fun s => u.length - s.1.toNat) (0, 0, ns (L ++ (u ++ R))) rfl rfl ⟨0, [], rfl, rfl, by omega, Int.le_refl 0, hg0, rfl, rfl⟩ ?_
  rintro ⟨i, c, xs⟩ ⟨k, pre, hi, hp, hk, h0, hc1, hxs, hset⟩ ih
  dsimp only at hi h0 hc1 hxs hset
  subst hi hxs
  refine qC rfl (fun h3 => ?_) (fun h3 => ?_)
  · have hlen : (L ++ (pre ++ (u.drop k ++ R))).length = L.length + u.length + R.length := by simp; omega
    have hinc := inc_k h3 (by omega)
    refine qXw rfl ⟨by omega, by omega⟩ (by omega) fun d hd => ?_
    have hd : (L ++ (pre ++ (u.drop k ++ R)))[L.length + (k : Int).toNat]? = some d := hd
    rw [Int.toNat_natCast, List.getElem?_append_right (by omega), List.getElem?_append_right (by omega), List.getElem?_append_left (by simp; omega), List.getElem?_drop, show k + (L.length + k - L.length - pre.length) = k by omega] at hd
    have hdx := drop_at hd
    have hd0 := (hdx ▸ InR.drop hu k).head
    have hy0 := (InR.drop hv k).headD
    have hmul := mul_dig hg0 hy0.1 hy0.2
    have hnext : ∀ t, t = d - c - g * (v.drop k).headD 0 → ∃ (k' : Nat) (pre' : List Int), iadd .i64 (k : Int) 1 = k' ∧ pre'.length = k' ∧ k' ≤ u.length ∧ 0 ≤ IntKind.i64.wrap (0 - t / 1048576) ∧ IntKind.i64.wrap (0 - t / 1048576) ≤ g ∧ (ns (L ++ (pre ++ (u.drop k ++ R)))).set (L.length + (k : Int).toNat) (N (iand .i64 t 1048575)) = ns (L ++ (pre' ++ (u.drop k' ++ R))) ∧ setD g 0 u v = (pre' ++ (setD g (IntKind.i64.wrap (0 - t / 1048576)) (u.drop k') (v.drop k')).1, (setD g (IntKind.i64.wrap (0 - t / 1048576)) (u.drop k') (v.drop k')).2) := by
      intro t ht
      have hw : IntKind.i64.wrap (0 - t / 1048576) = -(t / 1048576) := by rw [Int.zero_sub, wrap_i64 (by omega) (by omega)]
      rw [hw]
      refine ⟨k + 1, pre ++ [t % 1048576], hinc.1, by simp [hp], by omega, by omega, by omega, ?_, ?_⟩
      · rw [iand_mask, ns_set, hdx, Int.toNat_natCast, List.cons_append, ← List.append_assoc L pre, set_mid _ _ _ _ (by simp; omega)]; simp
      · rw [hset, hdx]
        simp only [setD, ← ht, List.append_assoc, List.singleton_append, List.tail_drop]
    refine qC rfl (fun h4 => ?_) (fun h4 => ?_)
    · refine qXw rfl ⟨by omega, by omega⟩ (by simp) fun e he => ?_
      have he : (v ++ Z)[0 + (k : Int).toNat]? = some e := he
      rw [Int.toNat_natCast, Nat.zero_add, List.getElem?_append_left (by omega)] at he
      have hdy : (v.drop k).headD 0 = e := by rw [drop_at he]; rfl
      rw [hdy] at hy0 hmul
      refine qXw rfl ⟨by omega, by omega⟩ (by omega) fun _ _ => qV rfl (shr_i64 _) (qB (ih (_, _, _) (hnext (isub .i64 (isub .i64 d c) (imul .i64 g e)) ?_) hinc.2) (by kernel_rfl))
      rw [hdy, isub_i64 (x := d) (by omega) (by omega), imul_i64 (by omega) (by omega), isub_i64 (by omega) (by omega)]
    · have hdy : (v.drop k).headD 0 = 0 := by rw [List.drop_eq_nil_of_le (by omega)]; rfl
      refine qXw rfl ⟨by omega, by omega⟩ (by omega) fun _ _ => qV rfl (shr_i64 _) (qB (ih (_, _, _) (hnext (isub .i64 d c) ?_) hinc.2) (by kernel_rfl))
      rw [hdy, isub_i64 (x := d) (by omega) (by omega)]; omega
  · obtain rfl : k = u.length := by omega
    rw [List.drop_length] at hset
    have hpre : setD g 0 u v = (pre, c) := by rw [hset]; simp [setD]
    rw [hpre]
    dsimp only
    have hx2 : ns (L ++ (pre ++ (u.drop u.length ++ R))) = ns (L ++ (pre ++ R)) := by rw [List.drop_length]; rfl
    refine qC rfl (fun h4 => ?_) (fun h4 => ?_)
    · rw [if_pos h4, if_pos h4]
      refine qR rfl ⟨rfl, ?_⟩
      rw [← hx2]; rfl
    · rw [if_neg h4, if_neg h4]
      have hin := setD_in g u v 0
      rw [hpre] at hin
      dsimp only at hin
      refine qL (σ := Int × Int × List VT) (fun s => [(49, I s.1), (10, I s.2.1)]) (fun s => [(0, .row 3 1 s.2.2)])
        (fun s => ∃ (k : Nat) (q : List Int), s.1 = k ∧ q.length = k ∧ k ≤ u.length ∧ 0 ≤ s.2.1 ∧ s.2.1 ≤ 1 ∧ s.2.2 = ns (L ++ (q ++ (pre.drop k ++ R))) ∧ (addD 0 pre v).1 = q ++ (addD s.2.1 (pre.drop k) (v.drop k)).1)
        (fun s => u.length - s.1.toNat) (0, 0, ns (L ++ (pre ++ (u.drop u.length ++ R)))) rfl rfl ⟨0, [], rfl, rfl, by omega, Int.le_refl 0, by show (0 : Int) ≤ 1; decide, hx2, rfl⟩ ?_
      rintro ⟨i, c2, xs⟩ ⟨k, q, hi, hq, hk2, h0', hc2, hxs, hadd⟩ ih2
      dsimp only at hi h0' hc2 hxs hadd
      subst hi hxs
      refine qC rfl (fun h5 => ?_) (fun h5 => ?_)
      · have hlen : (L ++ (q ++ (pre.drop k ++ R))).length = L.length + u.length + R.length := by simp; omega
        have hinc := inc_k h5 (by omega)
        refine qXw rfl ⟨by omega, by omega⟩ (by omega) fun d hd => ?_
        have hd : (L ++ (q ++ (pre.drop k ++ R)))[L.length + (k : Int).toNat]? = some d := hd
        rw [Int.toNat_natCast, List.getElem?_append_right (by omega), List.getElem?_append_right (by omega), List.getElem?_append_left (by simp; omega), List.getElem?_drop, show k + (L.length + k - L.length - q.length) = k by omega] at hd
        have hdx := drop_at hd
        have hd0 := (hdx ▸ InR.drop hin k).head
        have hy0 := (InR.drop hv k).headD
        have hnext : ∀ t, t = c2 + d + (v.drop k).headD 0 → ∃ (k' : Nat) (q' : List Int), iadd .i64 (k : Int) 1 = k' ∧ q'.length = k' ∧ k' ≤ u.length ∧ 0 ≤ t / 1048576 ∧ t / 1048576 ≤ 1 ∧ (ns (L ++ (q ++ (pre.drop k ++ R)))).set (L.length + (k : Int).toNat) (N (iand .i64 t 1048575)) = ns (L ++ (q' ++ (pre.drop k' ++ R))) ∧ (addD 0 pre v).1 = q' ++ (addD (t / 1048576) (pre.drop k') (v.drop k')).1 := by
          intro t ht
          refine ⟨k + 1, q ++ [t % 1048576], hinc.1, by simp [hq], by omega, by omega, by omega, ?_, ?_⟩
          · rw [iand_mask, ns_set, hdx, Int.toNat_natCast, List.cons_append, ← List.append_assoc L q, set_mid _ _ _ _ (by simp; omega)]; simp
          · rw [hadd, hdx]
            simp only [addD, ← ht, List.append_assoc, List.singleton_append, List.tail_drop]
        refine qC rfl (fun h6 => ?_) (fun h6 => ?_)
        · refine qXw rfl ⟨by omega, by omega⟩ (by simp) fun e he => ?_
          have he : (v ++ Z)[0 + (k : Int).toNat]? = some e := he
          rw [Int.toNat_natCast, Nat.zero_add, List.getElem?_append_left (by omega)] at he
          have hdy : (v.drop k).headD 0 = e := by rw [drop_at he]; rfl
          rw [hdy] at hy0
          refine qXw rfl ⟨by omega, by omega⟩ (by omega) fun _ _ => qV rfl (shr_i64 _) (qB (ih2 (_, _, _) (hnext (iadd .i64 (iadd .i64 c2 d) e) ?_) hinc.2) (by kernel_rfl))
          rw [hdy, iadd_i64 (x := c2) (by omega) (by omega), iadd_i64 (by omega) (by omega)]
        · have hdy : (v.drop k).headD 0 = 0 := by rw [List.drop_eq_nil_of_le (by omega)]; rfl
          refine qXw rfl ⟨by omega, by omega⟩ (by omega) fun _ _ => qV rfl (shr_i64 _) (qB (ih2 (_, _, _) (hnext (iadd .i64 c2 d) ?_) hinc.2) (by kernel_rfl))
          rw [hdy, iadd_i64 (x := c2) (by omega) (by omega)]; omega
      · obtain rfl : k = u.length := by omega
        have hp0 : pre.drop u.length = [] := List.drop_eq_nil_of_le (by omega)
        rw [hp0] at hadd
        simp only [addD, List.append_nil] at hadd
        rw [hadd]
        refine qR rfl ⟨by show I (isub .i64 g 1) = _; rw [isub_i64 (by omega) (by omega)], ?_⟩
        show [(⟨0, 0, false, true, false, .row 3 1 (ns (L ++ (q ++ (pre.drop u.length ++ R))))⟩ : Blk), _] = _
        rw [hp0]; rfl
theorem div_e {x y : Nat} (hy : y ≠ 0) (hlx : (dig x).length < 16777216) (hly : (dig y).length < 16777216) : EvF tt 73 [.v (.sl (ns (dig x))), .v (.sl (ns (dig y)))] (.tup [L (ns (dig (x / y))), L (ns (dig (x % y)))]) := by
  refine evF (eIn Tryz.func73 rfl rfl ?_)
  have hc := compare_e (Canon_dig x) (Canon_dig y) (by omega)
  rw [val_dig, val_dig] at hc
  refine qK rfl hc rfl ?_
  have hsg := sg_cases ((x : Int) - y)
  refine qC rfl (fun h => ?_) (fun h => ?_)
  · have hlt : x < y := by omega
    refine qU 1 8 rfl rfl rfl (szOk_ns _) ?_
    refine qR rfl ⟨?_, rfl⟩
    rw [Nat.div_eq_of_lt hlt, Nat.mod_eq_of_lt hlt, dig_zero]; rfl
  have hge : ¬ x < y := by omega
  have hyl : 1 ≤ (dig y).length := by
    have := dig_ne hy
    cases h : dig y with
    | nil => exact absurd h this
    | cons => simp
  refine qC rfl (fun h1 => ?_) (fun h1 => ?_)
  · rw [hlm] at h1
    obtain ⟨d, hd⟩ : ∃ d, dig y = [d] := List.length_eq_one_iff.1 (by omega)
    have hdy : d = y := by have := val_dig y; rw [hd] at this; simpa [val] using this
    have hd1 : 0 ≤ d ∧ d < 1048576 := InR_dig y d (by rw [hd]; simp)
    refine qXm rfl ⟨by omega, by omega⟩ fun d' hd' _ => ?_
    have hd' : (dig y)[(0 : Int).toNat]? = some d' := hd'
    rw [hd] at hd'
    have hdd : d' = d := by simpa using hd'.symm
    subst hdd
    refine qK rfl (short_e (InR_dig x) (by omega) (by omega) (by omega)) rfl ?_
    have hm : 0 ≤ (x : Int) % y ∧ (x : Int) % y < 1048576 := ⟨Int.emod_nonneg _ (by omega), by have := Int.emod_lt_of_pos (x : Int) (show (0 : Int) < y by omega); omega⟩
    rw [val_dig, hdy]
    obtain ⟨k1, k2⟩ := trim_w (l := [(x : Int) % y]) (InR.cons hm.1 hm.2 InR.nil) (by simp) rfl
    rw [show val [(x : Int) % y] = x % y by simp [val]] at k1 k2
    refine qK rfl k1 rfl (qR rfl ⟨?_, rfl⟩)
    show DV.tup [L (ns (dig ((x : Int) / y).toNat)), L (List.take _ (List.drop 0 _))] = _
    rw [List.drop_zero, ← Int.natCast_ediv, ← Int.natCast_emod, Int.toNat_natCast]
    rw [← Int.natCast_emod, Int.toNat_natCast] at k2
    exact congrArg (fun l => DV.tup [L (ns (dig (x / y))), L l]) k2
  · rw [hlm] at h1
    obtain ⟨pl, top, hpt⟩ := last1 (l := dig y) hyl
    have hpl : pl.length = (dig y).length - 1 := by have := congrArg List.length hpt; simp at this; omega
    have ht1 : 0 ≤ top ∧ top < 1048576 := InR_dig y top (by rw [hpt]; simp)
    have ht2 : top ≠ 0 := by have := dig_last y; rw [hpt] at this; simpa using this
    have hi1 : isub .i64 (ns (dig y)).length 1 = (((dig y).length - 1 : Nat) : Int) := by rw [hlm, isub_i64 (by omega) (by omega)]; omega
    have hpow : ∀ j : Nat, j ≤ 19 → 1 ≤ ((2 ^ j : Nat) : Int) ∧ ((2 ^ j : Nat) : Int) ≤ 524288 := fun j hj => by
      have h1 := Nat.pow_le_pow_right (n := 2) (by decide) hj
      have h2 := Nat.pow_pos (n := j) (show 0 < 2 by decide)
      have h3 : 2 ^ 19 = 524288 := by decide
      omega
    refine qL (σ := Int) (fun s => [(8, I s)]) (fun _ => []) (fun s => ∃ j : Nat, j ≤ 19 ∧ s = ((2 ^ j : Nat) : Int)) (fun s => (524288 - s).toNat) 1 rfl rfl ⟨0, by omega, rfl⟩ ?_
    rintro s ⟨j, hj, hs⟩ ih
    obtain ⟨p1, p2⟩ := hs ▸ hpow j hj
    refine qXm rfl (by rw [hi1]; omega) fun top' ht' _ => ?_
    have ht' : (dig y)[(isub .i64 (ns (dig y)).length 1).toNat]? = some top' := ht'
    have htt : top' = top := by
      rw [hi1, Int.toNat_natCast, ← hpl, hpt, List.getElem?_append_right (by omega)] at ht'
      simpa using ht'.symm
    subst htt
    have htm : 0 ≤ top' * s ∧ top' * s ≤ 549755813888 := ⟨Int.mul_nonneg (by omega) (by omega), by have := Int.mul_le_mul (show top' ≤ 1048576 by omega) p2 (by omega) (by omega); omega⟩
    have hmu : imul .i64 top' s = top' * s := imul_i64 (by omega) (by omega)
    refine qC rfl (fun h2 => ?_) (fun h2 => ?_)
    · rw [hmu] at h2
      have h3 : 1 * s ≤ top' * s := Int.mul_le_mul_of_nonneg_right (by omega) (by omega)
      have hj2 : j < 19 := by
        rcases Nat.lt_or_ge j 19 with h | h
        · exact h
        · obtain rfl : j = 19 := by omega
          have : ((2 ^ 19 : Nat) : Int) = 524288 := by decide
          omega
      have hd2 : imul .i64 s 2 = ((2 ^ (j + 1) : Nat) : Int) := by rw [imul_i64 (by omega) (by omega), hs, Nat.pow_succ]; omega
      exact qB (ih (imul .i64 s 2) ⟨j + 1, by omega, hd2⟩ (by rw [imul_i64 (by omega) (by omega)]; omega)) (by kernel_rfl)
    · clear ih
      obtain ⟨S, rfl⟩ := Int.eq_ofNat_of_zero_le (show 0 ≤ s by omega)
      have hS : 0 < S := by omega
      have hSi : InR [(S : Int)] := InR.cons (by omega) (by omega) InR.nil
      have hmul : ∀ z : Nat, (val (dig z) * val [(S : Int)]).toNat = z * S := fun z => by
        rw [val_dig]; simp only [val, Int.mul_zero, Int.add_zero]
        rw [← Int.natCast_mul, Int.toNat_natCast]
      obtain ⟨lx, m1, m2⟩ := mul_e (InR_dig x) hSi (by omega) (by simp)
      obtain ⟨ly, m3, m4⟩ := mul_e (InR_dig y) hSi (by omega) (by simp)
      rw [hmul] at m1 m2 m3 m4
      obtain ⟨Z, rfl⟩ : ∃ Z, ly = dig (y * S) ++ Z := ⟨ly.drop (dig (y * S)).length, by conv => lhs; rw [← List.take_append_drop (dig (y * S)).length ly, m3]⟩
      refine qK rfl m2 rfl ?_
      have hxS : x ≤ x * S := Nat.le_mul_of_pos_right _ hS
      have hyS : y ≤ y * S := Nat.le_mul_of_pos_right _ hS
      have hxy : y * S ≤ x * S := Nat.mul_le_mul_right _ (by omega)
      have l1 := len_mono hxS
      have l2 := len_mono hyS
      have l3 := len_mono hxy
      have l4 : (dig (x * S)).length ≤ (dig x).length + 1 := by
        have h := mulF_len [(S : Int)] (dig x) [0] rfl
        have h2 := len_dig_le (mulF_in hSi (dig x) [0] (InR_dig x) (InR.rep 1))
        rw [mulF_val [(S : Int)] (dig x) [0] rfl, show val [(0 : Int)] = 0 from rfl, Int.zero_add, hmul, h] at h2
        simpa using h2
      refine qA 8 rfl rfl (by simp; omega) ?_
      refine qK rfl m4 rfl ?_
      have hU : List.take (dig (x * S)).length (ns lx) ++ [N 0] = ns (dig (x * S) ++ [0]) := by
        rw [show List.take (dig (x * S)).length (ns lx) = ns (lx.take (dig (x * S)).length) from (List.map_take ..).symm, m1]; simp [ns]
      refine qN rfl (show (((List.take (dig (x * S)).length (ns lx) ++ [N 0]).length : Int) == ((ns (dig x)).length : Int)) = false by rw [hU, hlm, hlm]; simp; omega) ?_
      obtain ⟨K, hk⟩ : ∃ k, (dig (x * S)).length + 1 = (dig (y * S)).length + k := ⟨(dig (x * S)).length + 1 - (dig (y * S)).length, by omega⟩
      have hk1 : 1 ≤ K := by omega
      have hkle : K ≤ (dig (x * S)).length := by omega
      have hmk : isub .i64 ((List.take (dig (x * S)).length (ns lx) ++ [N 0]).length : Int) ((dig (y * S)).length : Int) = (K : Int) := by rw [hU, hlm, isub_i64 (by simp; omega) (by simp; omega)]; simp; omega
      refine qM 8 rfl rfl (show 0 ≤ isub .i64 ((List.take (dig (x * S)).length (ns lx) ++ [N 0]).length : Int) ((dig (y * S)).length : Int) ∧ (isub .i64 ((List.take (dig (x * S)).length (ns lx) ++ [N 0]).length : Int) ((dig (y * S)).length : Int)).toNat * 8 ≤ 140737488355328 by rw [hmk]; omega) ?_
      obtain ⟨X, hX⟩ : ∃ X, X = dig (x * S) := ⟨_, rfl⟩
      have hv : Canon (dig (y * S)) := Canon_dig _
      have hvl : val (dig (y * S)) = ((y * S : Nat) : Int) := val_dig _
      have hyS0 : y * S ≠ 0 := by omega
      have hw0 : val ((dig (x * S) ++ [(0 : Int)]).drop K) < val (dig (y * S)) := by
        obtain ⟨pl', top'', hpt'⟩ := last1 (l := dig (y * S)) (by omega)
        have htop' : 1 ≤ top'' := by
          have h1 := InR_dig (y * S) top'' (by rw [hpt']; simp)
          have h2 := dig_last (y * S)
          rw [hpt'] at h2
          have : top'' ≠ 0 := by simpa using h2
          omega
        have hVge : pw ((dig (y * S)).length - 1) ≤ val (dig (y * S)) := by
          have h0 : (dig (y * S)).length - 1 = pl'.length := by rw [hpt']; simp
          rw [h0, hpt', val_append]
          have h1 := val_nonneg (l := pl') (fun e he => InR_dig (y * S) e (by rw [hpt']; simp [he]))
          have h2 : pw pl'.length * 1 ≤ pw pl'.length * top'' := Int.mul_le_mul_of_nonneg_left htop' (by have := pw_pos pl'.length; omega)
          simp only [val, Int.mul_zero, Int.add_zero]
          omega
        rw [List.drop_append_of_le_length hkle, val_append]
        have h1 := val_lt (InR.drop (InR_dig (x * S)) K)
        have h2 : ((dig (x * S)).drop K).length = (dig (y * S)).length - 1 := by simp; omega
        rw [h2] at h1
        simp only [val, Int.mul_zero, Int.add_zero]
        omega
      have hui : InR (dig (x * S) ++ [(0 : Int)]) := (InR_dig _).append (InR.cons (by decide) (by decide) InR.nil)
      generalize hvv : dig (y * S) = v at *
      have hvl2 : 2 ≤ v.length := by omega
      refine qL (σ := Int × List VT × List VT) (fun s => [(13, I s.1)]) (fun s => [(0, .row 3 1 s.2.1), (2, .row 3 1 s.2.2)])
        (fun s => ∃ (k : Nat) (lo w zs qd : List Int), s.1 = (k : Int) - 1 ∧ lo.length = k ∧ w.length = v.length ∧ InR lo ∧ InR w ∧ InR zs ∧ val zs = 0 ∧ val w < val v ∧ k + v.length + zs.length = (dig (x * S)).length + 1 ∧ s.2.1 = ns (List.replicate k 0 ++ qd) ∧ s.2.2 = ns (lo ++ (w ++ zs)) ∧
          longD (val v) ((dig (x * S) ++ [0]).take K) (val ((dig (x * S) ++ [0]).drop K)) = ((longD (val v) lo (val w)).1 ++ qd, (longD (val v) lo (val w)).2))
        (fun s => (s.1 + 1).toNat) (isub .i64 ((List.replicate (isub .i64 ((List.take (dig (x * S)).length (ns lx) ++ [N 0]).length : Int) (v.length : Int)).toNat (N 0)).length : Int) 1, List.replicate (isub .i64 ((List.take (dig (x * S)).length (ns lx) ++ [N 0]).length : Int) (v.length : Int)).toNat (N 0), List.take (dig (x * S)).length (ns lx) ++ [N 0]) rfl rfl ?_ ?_
      · refine ⟨K, (dig (x * S) ++ [0]).take K, (dig (x * S) ++ [0]).drop K, [], [], ?_, by simp; omega, by simp; omega, InR.take hui K, InR.drop hui K, InR.nil, rfl, hw0, by simp; omega, ?_, ?_, ?_⟩
        · dsimp only; rw [hmk]; simp; rw [isub_i64 (by omega) (by omega)]
        · dsimp only; rw [hmk]; simp
        · dsimp only; rw [hU, List.append_nil, List.take_append_drop]
        · simp
      rintro ⟨i, qs, us⟩ ⟨k, lo, w, zs, qd, hi, hlo, hw, hil, hiw, hiz, hz, hlt, hlen, hqs, hus, hD⟩ ih
      dsimp only at hi hqs hus
      subst hi hqs hus
      refine qC rfl (fun h3 => ?_) (fun h3 => ?_)
      · obtain ⟨k, rfl⟩ : ∃ j, k = j + 1 := ⟨k - 1, by omega⟩
        obtain ⟨lo', d, rfl⟩ := last1 (l := lo) (by omega)
        obtain ⟨vl, v2, v1, hvd⟩ := last2 hvl2
        obtain ⟨ul, u2, t0, t1, hwin⟩ := last3 (l := d :: w) (by simp; omega)
        have hlo' : lo'.length = k := by simpa using hlo
        have hid : 0 ≤ d ∧ d < 1048576 := hil d (by simp)
        have hiwin : InR (ul ++ [u2, t0, t1]) := by rw [← hwin]; exact InR.cons hid.1 hid.2 hiw
        have hv1 : 1 ≤ v1 ∧ v1 < 1048576 := by
          have h1 := hv.1 v1 (by rw [hvd]; simp)
          have h2 := hv.2
          rw [hvd] at h2
          have : v1 ≠ 0 := by simpa using h2
          omega
        have ht1 : 0 ≤ t1 ∧ t1 < 1048576 := hiwin t1 (by simp)
        have ht0 : 0 ≤ t0 ∧ t0 < 1048576 := hiwin t0 (by simp)
        have hu2 : 0 ≤ u2 ∧ u2 < 1048576 := hiwin u2 (by simp)
        have hv2 : 0 ≤ v2 ∧ v2 < 1048576 := hv.1 v2 (by rw [hvd]; simp)
        have hvll : v.length = vl.length + 2 := by rw [hvd]; simp
        have hull : ul.length = vl.length := by
          have := congrArg List.length hwin
          simp at this; omega
        have hV := val_nonneg hv.1
        have hU0 := val_nonneg hiwin
        have hUw : val (ul ++ [u2, t0, t1]) = d + 1048576 * val w := by rw [← hwin]; rfl
        have hw0' := val_nonneg hiw
        have hult : val (ul ++ [u2, t0, t1]) < 1048576 * val v := by omega
        have eV : val v = val vl + pw vl.length * (v2 + 1048576 * v1) := by rw [hvd, val_append]; simp [val]
        have eU : val (ul ++ [u2, t0, t1]) = val ul + pw vl.length * (u2 + 1048576 * (t1 * 1048576 + t0)) := by
          rw [val_append, hull]
          simp only [val]
          have : t0 + 1048576 * (t1 + 1048576 * 0) = t1 * 1048576 + t0 := by omega
          rw [this]
        obtain ⟨T, hT⟩ : ∃ T, T = t1 * 1048576 + t0 := ⟨_, rfl⟩
        have hT0 : 0 ≤ T := by omega
        have hT1 : T < 1099511627776 := by omega
        have hg0 : 0 ≤ T / v1 := Int.ediv_nonneg hT0 (by omega)
        have hgT : T / v1 ≤ T := Int.ediv_le_self v1 hT0
        have hr0 : 0 ≤ T % v1 := Int.emod_nonneg _ (by omega)
        have hr1 : T % v1 < v1 := Int.emod_lt_of_pos _ (by omega)
        have hsum : T / v1 * v1 + T % v1 = T := by have := Int.mul_ediv_add_emod T v1; rw [Int.mul_comm] at this; exact this
        have hulP := val_lt (l := ul) (fun e he => hiwin e (by simp [he]))
        rw [hull] at hulP
        have hvli : InR vl := fun e he => hv.1 e (by rw [hvd]; simp [he])
        have hvl0 := val_nonneg hvli
        have hvlP := val_lt hvli
        have hul0 := val_nonneg (l := ul) (fun e he => hiwin e (by simp [he]))
        have hP := pw_pos vl.length
        have hq0 : val (ul ++ [u2, t0, t1]) < (T / v1 + 1) * val v := by
          rw [eU, eV, ← hT]
          refine first_guess hP hulP hu2.2 hvl0 hv2.1 ?_ hg0
          rw [Int.add_mul, Int.one_mul]; omega
        obtain ⟨u, hu⟩ : ∃ u, u = lo' ++ (ul ++ [u2, t0, t1]) ++ zs := ⟨_, rfl⟩
        have hu' : lo' ++ [d] ++ (w ++ zs) = u := by rw [hu, ← hwin]; simp
        have hulen : u.length = k + v.length + 1 + zs.length := by rw [← hu']; simp [hlo', hw]; omega
        rw [hu'] at ih ⊢
        have e0 : ((k + 1 : Nat) : Int) - 1 = (k : Int) := by omega
        have a1 : iadd .i64 (((k + 1 : Nat) : Int) - 1) (v.length : Int) = ((k + v.length : Nat) : Int) := by rw [e0, iadd_i64 (by omega) (by omega)]; omega
        have a2 : isub .i64 (iadd .i64 (((k + 1 : Nat) : Int) - 1) (v.length : Int)) 1 = ((k + vl.length + 1 : Nat) : Int) := by rw [a1, isub_i64 (by omega) (by omega)]; omega
        have a3 : isub .i64 (v.length : Int) 1 = ((vl.length + 1 : Nat) : Int) := by rw [isub_i64 (by omega) (by omega)]; omega
        have a4 : isub .i64 (v.length : Int) 2 = ((vl.length : Nat) : Int) := by rw [isub_i64 (by omega) (by omega)]; omega
        have a5 : isub .i64 (iadd .i64 (((k + 1 : Nat) : Int) - 1) (v.length : Int)) 2 = ((k + vl.length : Nat) : Int) := by rw [a1, isub_i64 (by omega) (by omega)]; omega
        have r1 : u[k + v.length]? = some t1 := by
          rw [hu, show lo' ++ (ul ++ [u2, t0, t1]) ++ zs = (lo' ++ (ul ++ [u2, t0])) ++ t1 :: zs by simp, List.getElem?_append_right (by simp [hlo', hull]; omega), show k + v.length - (lo' ++ (ul ++ [u2, t0])).length = 0 by simp [hlo', hull]; omega]; rfl
        have r2 : u[k + vl.length + 1]? = some t0 := by
          rw [hu, show lo' ++ (ul ++ [u2, t0, t1]) ++ zs = (lo' ++ (ul ++ [u2])) ++ t0 :: (t1 :: zs) by simp, List.getElem?_append_right (by simp [hlo', hull]; omega), show k + vl.length + 1 - (lo' ++ (ul ++ [u2])).length = 0 by simp [hlo', hull]; omega]; rfl
        have r3 : u[k + vl.length]? = some u2 := by
          rw [hu, show lo' ++ (ul ++ [u2, t0, t1]) ++ zs = (lo' ++ ul) ++ u2 :: ([t0, t1] ++ zs) by simp, List.getElem?_append_right (by simp [hlo', hull]), show k + vl.length - (lo' ++ ul).length = 0 by simp [hlo', hull]]; rfl
        have r4 : (v ++ Z)[vl.length + 1]? = some v1 := by rw [hvd]; simp
        have r5 : (v ++ Z)[vl.length]? = some v2 := by rw [hvd]; simp
        refine qXm rfl (by rw [a1]; omega) fun z1 hz1 _ => ?_
        have hz1 : u[(iadd .i64 (((k + 1 : Nat) : Int) - 1) (v.length : Int)).toNat]? = some z1 := hz1
        rw [a1, Int.toNat_natCast, r1] at hz1; cases hz1
        refine qV rfl (shl_i64 (by omega) (by omega)) ?_
        refine qXm rfl (by rw [a2]; omega) fun z1 hz1 _ => ?_
        have hz1 : u[(isub .i64 (iadd .i64 (((k + 1 : Nat) : Int) - 1) (v.length : Int)) 1).toNat]? = some z1 := hz1
        rw [a2, Int.toNat_natCast, r2] at hz1; cases hz1
        have hor : ior .i64 (t1 * 1048576) t0 = T := by rw [ior_i64 ht1.1 (by omega) ht0.1 ht0.2, hT]
        refine qE rfl (by kernel_rfl) (by kernel_rfl) ?_
        have hb3 : 0 ≤ isub .i64 (v.length : Int) 1 ∧ isub .i64 (v.length : Int) 1 < v.length := by rw [a3]; omega
        have hvZ : 0 + v.length ≤ (v ++ Z).length := by simp
        have hr4 : ∀ {z : Int}, (v ++ Z)[0 + (isub .i64 (v.length : Int) 1).toNat]? = some z → z = v1 := fun hz => by
          rw [a3, Int.toNat_natCast, Nat.zero_add, r4] at hz; exact (Option.some.inj hz).symm
        refine qXw rfl hb3 hvZ fun z1 hz1 => ?_
        obtain rfl := hr4 hz1
        refine qV (v := T / z1) rfl (by rw [hor]; exact quo_i64 hT0 (by omega) (by omega)) ?_
        refine qXw rfl hb3 hvZ fun z2 hz2 => ?_
        obtain rfl := hr4 hz2
        refine qV (v := T % z2) rfl (by rw [hor]; exact rem_pos hT0 (by omega)) ?_
        refine qE rfl (by kernel_rfl) (by kernel_rfl) ?_
        refine qI ?_
        refine qL (σ := Int × Int) (fun s => [(15, I s.1), (16, I s.2)]) (fun _ => [])
          (fun s => 0 ≤ s.1 ∧ 0 ≤ s.2 ∧ s.1 * z2 + s.2 = T ∧ val (ul ++ [u2, t0, t1]) < (s.1 + 1) * val v) (fun s => s.1.toNat) (T / z2, T % z2) rfl rfl ⟨hg0, hr0, hsum, hq0⟩ ?_
        rintro ⟨g, rest⟩ ⟨g1, g2, g3, g4⟩ ih2
        dsimp only at g1 g2 g3 g4
        have hback : (1048576 ≤ g ∨ (rest < 1048576 ∧ rest * 1048576 + u2 < g * v2)) → (0 ≤ isub .i64 g 1 ∧ 0 ≤ iadd .i64 rest z2 ∧ isub .i64 g 1 * z2 + iadd .i64 rest z2 = T ∧ val (ul ++ [u2, t0, t1]) < (isub .i64 g 1 + 1) * val v) ∧ (isub .i64 g 1).toNat < g.toNat := fun hbig => by
          have hgpos : 0 < g := by
            rcases hbig with h | ⟨h1, h2⟩
            · omega
            · rcases (show g = 0 ∨ 0 < g by omega) with h | h
              · subst h; omega
              · exact h
          have hgv : 0 ≤ g * z2 := Int.mul_nonneg g1 (by omega)
          have hgle : g * 1 ≤ g * z2 := Int.mul_le_mul_of_nonneg_left hv1.1 g1
          rw [isub_i64 (by omega) (by omega), iadd_i64 (by omega) (by omega)]
          refine ⟨⟨by omega, by omega, by rw [← g3]; grind, ?_⟩, by omega⟩
          rw [show g - 1 + 1 = g by omega]
          rcases hbig with h | ⟨h1, h2⟩
          · have : 1048576 * val v ≤ g * val v := Int.mul_le_mul_of_nonneg_right h hV
            omega
          · rw [eU, eV]
            exact knuth_high rfl (g3.trans hT) hvl0 hulP g1 h2 hP
        refine qC rfl (fun c1 => ?ka) (fun c1 => ?kb)
        case ka =>
          refine qE rfl (by kernel_rfl) (by kernel_rfl) ?_
          refine qXw rfl hb3 hvZ fun z hz => ?_
          obtain rfl := hr4 hz
          exact qB (ih2 (isub .i64 g 1, iadd .i64 rest z) (hback (.inl c1)).1 (hback (.inl c1)).2) (by kernel_rfl)
        have c1 : g < 1048576 := by have c1 : ¬ 1048576 ≤ g := c1; omega
        have hm1 := mul_dig (g := g) g1 hv2.1 hv2.2
        refine qC rfl (fun c2 => ?kc) (fun c2 => ?kd)
        case' kc =>
          have c2 : rest < 1048576 := c2
          refine qXw rfl (show 0 ≤ isub .i64 (v.length : Int) 2 ∧ isub .i64 (v.length : Int) 2 < v.length by rw [a4]; omega) hvZ fun z hz => ?_
          have hz : (v ++ Z)[0 + (isub .i64 (v.length : Int) 2).toNat]? = some z := hz
          rw [a4, Int.toNat_natCast, Nat.zero_add, r5] at hz; cases hz
          refine qV rfl (shl_i64 (x := rest) (by omega) (by omega)) ?_
          refine qXm rfl (by rw [a5]; omega) fun z hz _ => ?_
          have hz : u[(isub .i64 (iadd .i64 (((k + 1 : Nat) : Int) - 1) (v.length : Int)) 2).toNat]? = some z := hz
          rw [a5, Int.toNat_natCast, r3] at hz; cases hz
          refine qE rfl (by kernel_rfl) (by kernel_rfl) ?_
          have hcmp : ior .i64 (rest * 1048576) u2 = rest * 1048576 + u2 ∧ imul .i64 g v2 = g * v2 := ⟨ior_i64 g2 (by omega) hu2.1 hu2.2, imul_i64 (by omega) (by omega)⟩
          refine qC rfl (fun c3 => ?ke) (fun c3 => ?kf)
        case ke =>
          have c3 : ior .i64 (rest * 1048576) u2 < imul .i64 g v2 := c3
          rw [hcmp.1, hcmp.2] at c3
          refine qXw rfl hb3 hvZ fun z hz => ?_
          obtain rfl := hr4 hz
          exact qB (ih2 (isub .i64 g 1, iadd .i64 rest z) (hback (.inr ⟨c2, c3⟩)).1 (hback (.inr ⟨c2, c3⟩)).2) (by kernel_rfl)
        case' kf =>
          have hsm : g * v2 ≤ rest * 1048576 + u2 := by
            have c3 : ¬ ior .i64 (rest * 1048576) u2 < imul .i64 g v2 := c3
            rw [hcmp.1, hcmp.2] at c3; omega
        case' kd =>
          have hsm : g * v2 ≤ rest * 1048576 + u2 := by have c2 : ¬ rest < 1048576 := c2; omega
          refine qE rfl (by kernel_rfl) (by kernel_rfl) ?_
        all_goals
          have hsg2 : 0 ≤ (((k + 1 : Nat) : Int) - 1) ∧ (((k + 1 : Nat) : Int) - 1) ≤ iadd .i64 (iadd .i64 (((k + 1 : Nat) : Int) - 1) (v.length : Int)) 1 ∧ iadd .i64 (iadd .i64 (((k + 1 : Nat) : Int) - 1) (v.length : Int)) 1 ≤ ((ns u).length : Int) := by rw [a1, iadd_i64 (by omega) (by omega), hlm]; omega
          refine qW rfl hsg2 ?_
          have hlow : (g - 1) * val v ≤ val (ul ++ [u2, t0, t1]) := by
            rw [eU, eV]
            exact knuth_low rfl (g3.trans hT) hvl0 (by omega) hul0 (by omega) hsm hP hv1.1 hv2.1
          have hVpos : 0 < val v := by omega
          obtain ⟨r, s2, s3, s4, s1⟩ := settle_e (L := lo') (R := zs) (Z := Z) hiwin hv.1 (by simp; omega) (by simp; omega) g1 (by omega) hVpos g4 hlow
          rw [← List.append_assoc lo' _ zs, ← hu] at s1
          rw [show lo'.length = (((k + 1 : Nat) : Int) - 1).toNat by omega, show (ul ++ [u2, t0, t1]).length = (iadd .i64 (iadd .i64 (((k + 1 : Nat) : Int) - 1) (v.length : Int)) 1).toNat - (((k + 1 : Nat) : Int) - 1).toNat by rw [a1, iadd_i64 (by omega) (by omega)]; simp; omega] at s1
          refine qK rfl s1 rfl ?_
          clear ih2 hback
          have hrlt : val r < val v := by rw [s4]; exact Int.emod_lt_of_pos _ hVpos
          obtain ⟨w'', z, hrw⟩ := last1 (l := r) (by rw [s3]; simp)
          have hw''l : w''.length = v.length := by
            have := congrArg List.length hrw
            rw [s3] at this
            simp at this; omega
          have hz0 : z = 0 := by
            have h1 := val_lt hv.1
            have h2 : 0 ≤ z ∧ z < 1048576 := s2 z (by rw [hrw]; simp)
            have h3 := val_nonneg (l := w'') (fun e he => s2 e (by rw [hrw]; simp [he]))
            rw [hrw, val_append, hw''l] at hrlt
            simp only [val, Int.mul_zero, Int.add_zero] at hrlt
            rcases (show z = 0 ∨ 1 ≤ z by omega) with h4 | h4
            · exact h4
            · have h5 : pw v.length * 1 ≤ pw v.length * z := Int.mul_le_mul_of_nonneg_left h4 (by have := pw_pos v.length; omega)
              omega
          subst hz0
          have hrval : val r = val w'' := by rw [hrw, val_append]; simp [val]
          have hiw'' : InR w'' := fun e he => s2 e (by rw [hrw]; simp [he])
          refine qXm rfl (show 0 ≤ (((k + 1 : Nat) : Int) - 1) ∧ (((k + 1 : Nat) : Int) - 1) < ((List.replicate (k + 1) 0 ++ qd : List Int).length : Int) by simp; omega) fun _ _ _ => ?_
          refine qB (ih (isub .i64 (((k + 1 : Nat) : Int) - 1) 1, (ns (List.replicate (k + 1) 0 ++ qd)).set (((k + 1 : Nat) : Int) - 1).toNat (N (val (ul ++ [u2, t0, t1]) / val v)), ns (lo' ++ (r ++ zs))) ⟨k, lo', w'', 0 :: zs, (val (ul ++ [u2, t0, t1]) / val v) :: qd, ?_, hlo', hw''l, fun e he => hil e (by simp [he]), hiw'', InR.cons (by decide) (by decide) hiz, by show (0 : Int) + 1048576 * val zs = 0; omega, by omega, by simp; omega, ?_, ?_, ?_⟩ ?_) (by kernel_rfl)
          · dsimp only; rw [isub_i64 (by omega) (by omega)]; omega
          · dsimp only
            rw [e0, Int.toNat_natCast, ns_set, List.replicate_succ', List.append_assoc, List.singleton_append, set_mid _ _ _ _ (by simp)]
          · dsimp only; rw [hrw]; simp
          · rw [hD, longD_append]
            simp only [longD]
            have e2 : val w * 1048576 + d = val (ul ++ [u2, t0, t1]) := by omega
            rw [e2, ← s4, hrval]
            simp
          · show (isub .i64 (((k + 1 : Nat) : Int) - 1) 1 + 1).toNat < ((((k + 1 : Nat) : Int) - 1) + 1).toNat
            rw [isub_i64 (by omega) (by omega)]; omega
      · clear ih
        obtain rfl : k = 0 := by omega
        have hlo0 : lo = [] := List.eq_nil_of_length_eq_zero hlo
        subst hlo0
        simp only [longD, List.nil_append] at hD
        have hV : (0 : Int) < val v := by rw [hvl]; omega
        have h0 := val_nonneg (InR.drop hui K)
        have q1 := longD_val (V := val v) ((dig (x * S) ++ [(0 : Int)]).take K) (val ((dig (x * S) ++ [(0 : Int)]).drop K))
        have q2 := longD_rem hV ((dig (x * S) ++ [(0 : Int)]).take K) _ h0 hw0
        have q3 := longD_in hV ((dig (x * S) ++ [(0 : Int)]).take K) _ (InR.take hui K) h0 hw0
        have q4 := longD_len (val v) ((dig (x * S) ++ [(0 : Int)]).take K) (val ((dig (x * S) ++ [(0 : Int)]).drop K))
        rw [hD] at q1 q2 q3 q4
        dsimp only at q1 q2 q3 q4
        rw [valc_append, List.take_append_drop] at q1
        have q5 : val (dig (x * S) ++ [(0 : Int)]) = ((x * S : Nat) : Int) := by rw [val_append, val_dig]; simp [val]
        rw [q5] at q1
        rw [hvl] at q1 q2
        obtain ⟨g1, g2⟩ := quot_of (U := ((x * S : Nat) : Int)) (V := ((y * S : Nat) : Int)) (q := val qd) (by omega) (by omega) (by rw [Int.add_mul, Int.one_mul]; omega)
        obtain ⟨n1, n2⟩ := nat_div_scale (a := x) (b := y) hS
        have e1 : val (w ++ zs) = ((x % y * S : Nat) : Int) := by
          rw [val_append, hz, Int.mul_zero, Int.add_zero, ← n2, Int.natCast_emod]; omega
        have e2 : val qd = ((x / y : Nat) : Int) := by
          rw [← g1, ← n1, Int.natCast_ediv]
        have hdl := len_dig_le (hiw.append hiz)
        rw [e1, Int.toNat_natCast] at hdl
        obtain ⟨k1, k2⟩ := trim_w (l := w ++ zs) (hiw.append hiz) (by simp; omega) (show ns ([] ++ (w ++ zs)) = ns (w ++ zs) from rfl)
        rw [e1, Int.toNat_natCast] at k1 k2
        refine qK rfl k1 rfl ?_
        have hsh := short_e (InR_dig (x % y * S)) (d := (S : Int)) (by simp at hdl; omega) (by omega) (by omega)
        rw [val_dig, ← Int.natCast_ediv, Nat.mul_div_cancel _ hS, Int.toNat_natCast] at hsh
        rw [← k2] at hsh
        refine qK rfl hsh rfl ?_
        obtain ⟨k3, k4⟩ := trim_w (l := qd) q3 (by rw [q4]; simp; omega) (show ns (List.replicate 0 0 ++ qd) = ns qd from rfl)
        rw [e2, Int.toNat_natCast] at k3 k4
        refine qK rfl k3 rfl (qR rfl ⟨?_, rfl⟩)
        show DV.tup [L (List.take _ (List.drop 0 _)), L (ns (dig (x % y)))] = _
        rw [List.drop_zero]
        exact congrArg (fun l => DV.tup [L l, L (ns (dig (x % y)))]) k4
end Go.Proofs.YteekaonhdckicaaGreatDoor.Dp

namespace Go.Proofs.YteekaonhdckicaaGreatDoor.Dp
open Go Go.RowKit Go.Proofs.YteekaonhdckicaaGreatDoor.Rt Go.Proofs Go.Proofs.YteekaonhdckicaaGreatDoor.D
set_option linter.unusedVariables false
set_option maxHeartbeats 4000000
set_option maxRecDepth 100000
theorem rt {x : Int} {k : Nat} (h : Sm k x) (hk : k < 1099511627776) : EvF tt 29 [.v (eB (toB x))] (B true) := by
  have hr := right_e (toB x) (by have := len_of_sm h; show (dig x.natAbs).length < _; omega)
  rwa [rightb_toB] at hr
theorem neg_e {x : Int} {k : Nat} (h : Sm k x) (hk : k < 1073741824) : EvF tt 127 [.v (eB (toB x))] (.v (eB (toB (-x)))) := by
  refine evF (eIn Tryz.func127 rfl rfl ?_)
  have hl := len_of_sm h
  refine qK rfl (rt h (by omega)) rfl (qN rfl rfl ?_)
  refine qU 1 8 rfl rfl rfl (szOk_ns _) ?_ (by show (ns (dig x.natAbs)).length * 8 ≤ _; simp; omega)
  have hr := sg_range x
  have hs := signed_e (IntKind.i64.wrap (0 - sg x)) x.natAbs (by omega)
  rw [signed_toB (-x) (by omega) (fun hv => by
    rw [wrap_i64 (by omega) (by omega)]
    rcases sg_cases x with ⟨h1, h2⟩ | ⟨h1, h2⟩ | ⟨h1, h2⟩
    · rw [h2, sg_pos (by omega)]; rfl
    · omega
    · rw [h2, sg_neg (by omega)]; rfl)] at hs
  exact qK rfl hs rfl (qE rfl (by kernel_rfl) (by kernel_rfl) (qR rfl ⟨rfl, rfl⟩))
theorem or_e (x y : Int) : EvF tt 305 [.v (.sl [N x, N y])] (I (if x ≠ 0 then x else y)) := by
  refine evF (eIn Tryz.func305 rfl rfl ?_)
  refine qL (σ := Int) (fun i => [(8, I i)]) (fun _ => []) (fun i => i = 0 ∨ (i = 1 ∧ x = 0) ∨ (i = 2 ∧ x = 0 ∧ y = 0)) (fun i => (2 - i).toNat) 0 rfl rfl (.inl rfl) ?_
  rintro i hi ih
  have h2 : ((([N x, N y] : List VT).length : Nat) : Int) = 2 := rfl
  refine qC rfl (fun h => ?_) (fun h => ?_)
  · rw [h2] at h
    rcases hi with rfl | ⟨rfl, hx⟩ | ⟨rfl, _⟩
    · refine qV (v := N x) rfl rfl (qC rfl (fun h3 => ?_) (fun h3 => ?_))
      · exact qR rfl ⟨by rw [if_pos h3]; rfl, rfl⟩
      · exact qB (ih (iadd .i64 0 1) (.inr (.inl ⟨by decide, by omega⟩)) (by decide)) (by kernel_rfl)
    · refine qV (v := N y) rfl rfl (qC rfl (fun h3 => ?_) (fun h3 => ?_))
      · exact qR rfl ⟨by rw [if_neg (by omega)]; rfl, rfl⟩
      · exact qB (ih (iadd .i64 1 1) (.inr (.inr ⟨by decide, hx, by omega⟩)) (by decide)) (by kernel_rfl)
    · omega
  · rw [h2] at h
    rcases hi with rfl | ⟨rfl, _⟩ | ⟨rfl, hx, hy⟩
    · omega
    · omega
    · exact qR rfl ⟨by rw [if_neg (by omega), hy]; rfl, rfl⟩
theorem add_n (u v : Nat) (hu : (dig u).length < 1073741824) (hv : (dig v).length < 1073741824) : EvF tt 146 [.v (.sl (ns (dig u))), .v (.sl (ns (dig v)))] (L (ns (dig (u + v)))) := by
  have := add_e (InR_dig u) (InR_dig v) hu hv
  rwa [val_dig, val_dig, show ((u : Int) + v).toNat = u + v by omega] at this
theorem sub_n (u v : Nat) (hu : (dig u).length < 1073741824) (hvu : v ≤ u) : EvF tt 189 [.v (.sl (ns (dig u))), .v (.sl (ns (dig v)))] (L (ns (dig (u - v)))) := by
  have := sub_e (InR_dig u) (InR_dig v) hu (len_mono hvu) (by rw [val_dig, val_dig]; omega)
  rwa [val_dig, val_dig, show ((u : Int) - v).toNat = u - v by omega] at this
theorem compare_nat (u v : Nat) (hu : (dig u).length < 1073741824) : EvF tt 129 [.v (.sl (ns (dig u))), .v (.sl (ns (dig v)))] (I (sg ((u : Int) - v))) := by
  have := compare_e (Canon_dig u) (Canon_dig v) (by omega)
  rwa [val_dig, val_dig] at this
theorem checked_e (c : Big) : EvF tt 71 [.v (.bool true), .v (eB c)] (.tup [.v (eB c), I 0]) := by
  refine evF (eIn Tryz.func71 rfl rfl ?_)
  exact qN rfl rfl (qR rfl ⟨rfl, rfl⟩)
theorem badd_e {x y : Int} {k : Nat} (hx : Sm k x) (hy : Sm k y) (hk : k < 536870912) : EvF tt 271 [.v (eB (toB x)), .v (eB (toB y))] (.tup [.v (eB (toB (x + y))), I 0]) := by
  refine evF (eIn Tryz.func271 rfl rfl ?_)
  have lx := len_of_sm hx
  have ly := len_of_sm hy
  have lxy := len_of_sm (hx.add hy)
  refine qK rfl (rt hx (by omega)) rfl (qN rfl rfl (qK rfl (rt hy (by omega)) rfl ?_))
  refine qN rfl rfl ?_
  refine qC rfl (fun hs => ?_) (fun hs => ?_)
  · have hs : 0 ≤ imul .i64 (sg x) (sg y) := hs
    rw [imul_sg] at hs
    refine qK rfl (or_e (sg x) (sg y)) rfl ?_
    refine qK rfl (add_n x.natAbs y.natAbs (by omega) (by omega)) rfl ?_
    have hab : x.natAbs + y.natAbs = (x + y).natAbs := by
      rw [sg_mul] at hs
      rcases sg_cases x with ⟨h1, h2⟩ | ⟨h1, h2⟩ | ⟨h1, h2⟩ <;> rcases sg_cases y with ⟨h3, h4⟩ | ⟨h3, h4⟩ | ⟨h3, h4⟩ <;> rw [h2, h4] at hs <;> omega
    have h6 := signed_e (if sg x ≠ 0 then sg x else sg y) (x.natAbs + y.natAbs) (by rw [hab]; omega)
    rw [signed_toB (x + y) hab.symm (fun hv => by
      rw [sg_mul] at hs
      rcases sg_cases x with ⟨h1, h2⟩ | ⟨h1, h2⟩ | ⟨h1, h2⟩ <;> rcases sg_cases y with ⟨h3, h4⟩ | ⟨h3, h4⟩ | ⟨h3, h4⟩ <;> rw [h2, h4] at hs ⊢ <;>
        first
          | omega
          | (rw [sg_neg (by omega)]; decide)
          | (rw [sg_pos (by omega)]; decide))] at h6
    exact qK rfl h6 rfl (qK rfl (checked_e _) rfl (qE rfl (by kernel_rfl) (by kernel_rfl) (qR rfl ⟨rfl, rfl⟩)))
  · have hs : ¬ 0 ≤ imul .i64 (sg x) (sg y) := hs
    rw [imul_sg] at hs
    have hne : x ≠ 0 ∧ y ≠ 0 := by
      constructor
      · intro h; subst h; rw [Int.zero_mul] at hs; exact hs (by decide)
      · intro h; subst h; rw [Int.mul_zero] at hs; exact hs (by decide)
    have hop : sg x = -sg y := by
      rw [sg_mul] at hs
      rcases sg_cases x with ⟨h1, h2⟩ | ⟨h1, h2⟩ | ⟨h1, h2⟩ <;> rcases sg_cases y with ⟨h3, h4⟩ | ⟨h3, h4⟩ | ⟨h3, h4⟩ <;> rw [h2, h4] at hs ⊢ <;> omega
    refine qK rfl (compare_nat x.natAbs y.natAbs (by omega)) rfl ?_
    have hsc := sg_cases ((x.natAbs : Int) - y.natAbs)
    refine qC rfl (fun hlt => ?_) (fun hlt => ?_)
    · have hlt : x.natAbs < y.natAbs := by omega
      refine qK rfl (sub_n y.natAbs x.natAbs (by omega) (by omega)) rfl ?_
      have hab : (x + y).natAbs = y.natAbs - x.natAbs := by
        rcases sg_cases x with ⟨h1, h2⟩ | ⟨h1, h2⟩ | ⟨h1, h2⟩ <;> rcases sg_cases y with ⟨h3, h4⟩ | ⟨h3, h4⟩ | ⟨h3, h4⟩ <;> omega
      have h6 := signed_e (sg y) (y.natAbs - x.natAbs) (by rw [← hab]; omega)
      rw [signed_toB (x + y) hab (fun hv => by
        rcases sg_cases y with ⟨h3, h4⟩ | ⟨h3, h4⟩ | ⟨h3, h4⟩
        · rw [h4, sg_neg (by omega)]
        · omega
        · rw [h4, sg_pos (by omega)])] at h6
      exact qK rfl h6 rfl (qK rfl (checked_e _) rfl (qE rfl (by kernel_rfl) (by kernel_rfl) (qR rfl ⟨rfl, rfl⟩)))
    · have hlt : ¬ x.natAbs < y.natAbs := by omega
      refine qK rfl (sub_n x.natAbs y.natAbs (by omega) (by omega)) rfl ?_
      have hab : (x + y).natAbs = x.natAbs - y.natAbs := by
        rcases sg_cases x with ⟨h1, h2⟩ | ⟨h1, h2⟩ | ⟨h1, h2⟩ <;> rcases sg_cases y with ⟨h3, h4⟩ | ⟨h3, h4⟩ | ⟨h3, h4⟩ <;> omega
      have h6 := signed_e (sg x) (x.natAbs - y.natAbs) (by rw [← hab]; omega)
      rw [signed_toB (x + y) hab (fun hv => by
        rcases sg_cases x with ⟨h3, h4⟩ | ⟨h3, h4⟩ | ⟨h3, h4⟩
        · rw [h4, sg_neg (by omega)]
        · omega
        · rw [h4, sg_pos (by omega)])] at h6
      exact qK rfl h6 rfl (qK rfl (checked_e _) rfl (qE rfl (by kernel_rfl) (by kernel_rfl) (qR rfl ⟨rfl, rfl⟩)))
theorem bmul_e {x y : Int} {k : Nat} (hx : Sm k x) (hy : Sm k y) (hk : k < 268435456) : EvF tt 210 [.v (eB (toB x)), .v (eB (toB y))] (.tup [.v (eB (toB (x * y))), I 0]) := by
  refine evF (eIn Tryz.func210 rfl rfl ?_)
  have lx := len_of_sm hx
  have ly := len_of_sm hy
  have lxy := len_of_sm (hx.mul hy)
  refine qK rfl (rt hx (by omega)) rfl (qN rfl rfl (qK rfl (rt hy (by omega)) rfl ?_))
  refine qN rfl rfl ?_
  obtain ⟨l, m1, m2⟩ := mul_e (InR_dig x.natAbs) (InR_dig y.natAbs) (by omega) (by omega)
  rw [val_dig, val_dig, ← Int.natCast_mul, Int.toNat_natCast, ← Int.natAbs_mul] at m1 m2
  refine qK rfl m2 rfl ?_
  have h6 := signed_e (imul .i64 (sg x) (sg y)) (x * y).natAbs (by omega)
  rw [signed_toB (x * y) rfl (fun _ => imul_sg x y)] at h6
  have hl : ((ns l).drop 0).take (dig (x * y).natAbs).length = ns (dig (x * y).natAbs) := by rw [List.drop_zero]; exact (List.map_take ..).symm.trans (congrArg ns m1)
  rw [← hl] at h6
  exact qK rfl h6 rfl (qK rfl (checked_e _) rfl (qE rfl (by kernel_rfl) (by kernel_rfl) (qR rfl ⟨rfl, rfl⟩)))
theorem bcompare_e {x y : Int} {k : Nat} (hx : Sm k x) (hy : Sm k y) (hk : k < 536870912) : EvF tt 150 [.v (eB (toB x)), .v (eB (toB y))] (I (sg (x - y))) := by
  refine evF (eIn Tryz.func150 rfl rfl ?_)
  have lx := len_of_sm hx
  refine qK rfl (rt hx (by omega)) rfl (qN rfl rfl (qK rfl (rt hy (by omega)) rfl ?_))
  refine qN rfl rfl ?_
  refine qC rfl (fun h => ?_) (fun h => ?_)
  · have h : sg x ≠ sg y := h
    refine qK rfl (cmp_e _ _) rfl (qR rfl ⟨?_, rfl⟩)
    refine congrArg I ?_
    show sg (sg x - sg y) = _
    rcases sg_cases x with ⟨a, b⟩ | ⟨a, b⟩ | ⟨a, b⟩ <;> rcases sg_cases y with ⟨c, d⟩ | ⟨c, d⟩ | ⟨c, d⟩ <;> rw [b, d] at h ⊢ <;> first
      | (exfalso; omega)
      | (rw [sg_neg (x := x - y) (by omega)]; decide)
      | (rw [sg_pos (x := x - y) (by omega)]; decide)
  · have h : sg x = sg y := Classical.byContradiction h
    refine qK rfl (compare_nat x.natAbs y.natAbs (by omega)) rfl (qE rfl (by kernel_rfl) (by kernel_rfl) (qR rfl ⟨?_, rfl⟩))
    refine congrArg I ?_
    show imul .i64 (sg x) _ = _
    rw [imul_sg]
    rcases sg_cases x with ⟨a, b⟩ | ⟨a, b⟩ | ⟨a, b⟩ <;> rcases sg_cases y with ⟨c, d⟩ | ⟨c, d⟩ | ⟨c, d⟩ <;> rw [b, d] at h <;> (try omega)
    · rw [sg_mul, b]
      rcases sg_cases (x - y) with ⟨e, f⟩ | ⟨e, f⟩ | ⟨e, f⟩
      · rw [f, sg_pos (by omega)]; rfl
      · rw [f, show (x.natAbs : Int) - y.natAbs = 0 by omega]; rfl
      · rw [f, sg_neg (by omega)]; rfl
    · subst a c; rfl
    · rw [sg_mul, b, Int.one_mul, show (x.natAbs : Int) - y.natAbs = x - y by omega]
theorem bdiv_e {x y : Int} {k : Nat} (hx : Sm k x) (hy : Sm k y) (hk : k < 8388608) (hy0 : y ≠ 0) : EvF tt 128 [.v (eB (toB x)), .v (eB (toB y))] (.tup [.v (eB (toB (dq x y))), .v (eB (toB (dr x y))), I 0]) := by
  have lx := len_of_sm hx
  have ly := len_of_sm hy
  have hyn : y.natAbs ≠ 0 := by omega
  have hmod := Nat.mod_lt x.natAbs (show y.natAbs > 0 by omega)
  have hdivle : x.natAbs / y.natAbs ≤ x.natAbs := Nat.div_le_self _ _
  have lq := len_mono hdivle
  have lr := len_mono (Nat.le_of_lt hmod)
  have lq1 : (dig (x.natAbs / y.natAbs + 1)).length ≤ k + 1 := by
    have h : Sm (k + 1) ((x.natAbs / y.natAbs + 1 : Nat) : Int) := by
      generalize x.natAbs / y.natAbs = q at *
      unfold Sm at *
      rw [Int.natAbs_natCast]
      simp only [pw]; have := pw_pos k; omega
    have := len_of_sm h
    rwa [Int.natAbs_natCast] at this
  have ls := len_mono (show y.natAbs - x.natAbs % y.natAbs ≤ y.natAbs by omega)
  refine evF (eIn Tryz.func128 rfl rfl ?_)
  refine qK rfl (rt hx (by omega)) rfl (qN rfl rfl (qK rfl (rt hy (by omega)) rfl (qN rfl rfl ?_)))
  refine qN rfl (by show (sg y == 0) = false; rcases sg_cases y with h | h | h <;> first | (rw [h.2]; rfl) | omega) ?_
  refine qK rfl (div_e (x := x.natAbs) (y := y.natAbs) hyn (by omega) (by omega)) rfl ?_
  have hso : odd x y = true ↔ (imul .i64 (sg x) (sg y) < 0 ∧ 0 < ((dig (x.natAbs % y.natAbs)).length : Int)) := by
    rw [imul_sg]
    unfold odd
    have e1 : (sg (x * y) < 0) ↔ (x * y < 0) := by
      rcases sg_cases (x * y) with ⟨h1, h2⟩ | ⟨h1, h2⟩ | ⟨h1, h2⟩ <;> rw [h2] <;> simp <;> omega
    have e2 : (0 < ((dig (x.natAbs % y.natAbs)).length : Int)) ↔ (x.natAbs % y.natAbs ≠ 0) := by
      by_cases h : x.natAbs % y.natAbs = 0
      · rw [h, dig_zero]; simp
      · have := dig_ne h
        have h3 : 0 < (dig (x.natAbs % y.natAbs)).length := List.length_pos_iff.2 this
        simp [h]; omega
    rw [e1, e2]; simp
  refine qC rfl (fun c1 => ?ka) (fun c1 => ?kb)
  case' ka =>
    have c1 : imul .i64 (sg x) (sg y) < 0 := c1
    refine qC rfl (fun c2 => ?kc) (fun c2 => ?kd)
  case kc =>
    have c2 : 0 < ((ns (dig (x.natAbs % y.natAbs))).length : Int) := c2
    rw [hlm] at c2
    have ho := hso.2 ⟨c1, c2⟩
    have ha := add_n (x.natAbs / y.natAbs) 1 (by omega) (by rw [dig_one]; simp)
    rw [dig_one] at ha
    have h6 := signed_e (-1) (x.natAbs / y.natAbs + 1) (by omega)
    have h7 := signed_e (sg y) (y.natAbs - x.natAbs % y.natAbs) (by omega)
    rw [signed_toB (dq x y) (dq_odd ho).1 (fun _ => (dq_odd ho).2.symm)] at h6
    rw [signed_toB (dr x y) (dr_odd hy0 ho).1 (fun _ => (dr_odd hy0 ho).2.symm)] at h7
    refine qK rfl ha rfl (qK rfl h6 rfl (qK rfl (sub_n y.natAbs (x.natAbs % y.natAbs) (by omega) (by omega)) rfl (qK rfl h7 rfl ?_)))
    first
      | exact qR rfl ⟨rfl, rfl⟩
      | exact qE rfl (by kernel_rfl) (by kernel_rfl) (qR rfl ⟨rfl, rfl⟩)
  case' kd =>
    have ho : ¬ odd x y = true := fun h => c2 (by show 0 < ((ns (dig (x.natAbs % y.natAbs))).length : Int); rw [hlm]; exact (hso.1 h).2)
  case' kb =>
    have ho : ¬ odd x y = true := fun h => c1 (hso.1 h).1
  all_goals
    have h6 := signed_e (imul .i64 (sg x) (sg y)) (x.natAbs / y.natAbs) (by omega)
    have h7 := signed_e (sg x) (x.natAbs % y.natAbs) (by omega)
    rw [imul_sg, signed_toB (dq x y) (dq_even hy0 ho).1 (dq_even hy0 ho).2, ← imul_sg] at h6
    rw [signed_toB (dr x y) (dr_even ho).1 (dr_even ho).2] at h7
    refine qK rfl h6 rfl (qK rfl h7 rfl ?_)
    first
      | exact qR rfl ⟨rfl, rfl⟩
      | exact qE rfl (by kernel_rfl) (by kernel_rfl) (qR rfl ⟨rfl, rfl⟩)
theorem gcd_e {x y : Int} {k : Nat} (hx : Sm k x) (hy : Sm k y) (hk : k < 8388608) : EvF tt 30 [.v (eB (toB x)), .v (eB (toB y))] (.tup [.v (eB (toB (Nat.gcd x.natAbs y.natAbs : Nat))), I 0]) := by
  have lx := len_of_sm hx
  have ly := len_of_sm hy
  have lg : (dig (Nat.gcd x.natAbs y.natAbs)).length < 16777216 := by
    by_cases h : x.natAbs = 0
    · rw [h, Nat.gcd_zero_left]; omega
    · have := len_mono (Nat.gcd_le_left y.natAbs (show 0 < x.natAbs by omega)); omega
  refine evF (eIn Tryz.func30 rfl rfl ?_)
  refine qK rfl (rt hx (by omega)) rfl (qN rfl rfl (qK rfl (rt hy (by omega)) rfl (qN rfl rfl ?_)))
  refine qU 1 8 rfl rfl rfl (szOk_ns _) ?_ (by show (ns (dig x.natAbs)).length * 8 ≤ _; simp; omega)
  refine qE rfl (by kernel_rfl) (by kernel_rfl) ?_
  refine qB ?_ rfl
  refine qI ?_
  have hend : ∀ g : Nat, Nat.gcd x.natAbs y.natAbs = g → (dig g).length < 16777216 ∧ EvF tt 74 [.v (N 1), .v (.sl (ns (dig g)))] (.v (eB (toB (g : Int)))) := by
    rintro g rfl
    have h6 := signed_e 1 (Nat.gcd x.natAbs y.natAbs) (by omega)
    rw [signed_toB ((Nat.gcd x.natAbs y.natAbs : Nat) : Int) (Int.natAbs_natCast _) (fun hv => by rw [sg_pos (by omega)])] at h6
    exact ⟨lg, h6⟩
  refine qC rfl (fun h => ?_) (fun h => ?_)
  · have h : 0 < ((ns (dig y.natAbs)).length : Int) := h
    rw [hlm] at h
    have hy0 : y.natAbs ≠ 0 := fun e => by rw [e, dig_zero] at h; simp at h
    refine qK rfl (div_e (x := x.natAbs) (y := y.natAbs) hy0 (by omega) (by omega)) rfl ?_
    have hmod := Nat.mod_lt x.natAbs (show y.natAbs > 0 by omega)
    refine qL (σ := Nat × Nat) (fun s => [(6, L (ns (dig s.1))), (7, L (ns (dig s.2)))]) (fun _ => []) (fun s => (dig s.1).length < 16777216 ∧ (dig s.2).length < 16777216 ∧ Nat.gcd x.natAbs y.natAbs = Nat.gcd s.1 s.2) (fun s => s.2) (y.natAbs, x.natAbs % y.natAbs) rfl rfl ⟨by dsimp only; omega, by have := len_mono (Nat.le_of_lt hmod); dsimp only; omega, by rw [Nat.gcd_comm x.natAbs, Nat.gcd_rec y.natAbs, Nat.gcd_comm]⟩ ?_
    rintro ⟨u, v⟩ ⟨hu, hv, hg⟩ ih
    dsimp only at hu hv hg
    refine qC rfl (fun h => ?_) (fun h => ?_)
    · have h : 0 < ((ns (dig v)).length : Int) := h
      rw [hlm] at h
      have hv0 : v ≠ 0 := fun e => by rw [e, dig_zero] at h; simp at h
      have hmod := Nat.mod_lt u (show v > 0 by omega)
      refine qK rfl (div_e (x := u) (y := v) hv0 hu hv) rfl ?_
      exact qB (ih (v, u % v) ⟨hv, by have := len_mono (Nat.le_of_lt hmod); dsimp only; omega, by rw [hg, Nat.gcd_comm u, Nat.gcd_rec v, Nat.gcd_comm]⟩ hmod) (by kernel_rfl)
    · have h : ¬ 0 < ((ns (dig v)).length : Int) := h
      rw [hlm] at h
      obtain rfl : v = 0 := dig_eq_nil.1 (List.length_eq_zero_iff.1 (by omega))
      rw [Nat.gcd_zero_right] at hg
      obtain ⟨l1, h6⟩ := hend u hg
      refine qU 1 8 rfl rfl rfl (szOk_ns _) (qK rfl h6 rfl (qK rfl (checked_e _) rfl (qR rfl ⟨by rw [hg]; rfl, rfl⟩)))
  · have h : ¬ 0 < ((ns (dig y.natAbs)).length : Int) := h
    rw [hlm] at h
    have hy0 : y.natAbs = 0 := dig_eq_nil.1 (List.length_eq_zero_iff.1 (by omega))
    obtain ⟨l1, h6⟩ := hend x.natAbs (by rw [hy0, Nat.gcd_zero_right])
    refine qU 1 8 rfl rfl rfl (szOk_ns _) (qK rfl h6 rfl (qK rfl (checked_e _) rfl (qR rfl ⟨by rw [hy0, Nat.gcd_zero_right]; rfl, rfl⟩))) (by show (ns (dig x.natAbs)).length * 8 ≤ _; simp; omega)
theorem of_e {x : Int} (h1 : -9223372036854775808 ≤ x) (h2 : x ≤ 9223372036854775807) : EvF tt 48 [.v (N x)] (.v (eB (toB x))) := by
  refine evF (eIn Tryz.func48 rfl rfl ?_)
  have hl := len64 (u := x.natAbs) (by omega)
  refine qC rfl (fun h => ?_) (fun h => ?_)
  case' refine_1 =>
    have e : IntKind.u64.wrap (0 - IntKind.u64.wrap x) = (x.natAbs : Int) := by rw [wrapu64, wrapu64]; omega
    obtain ⟨s, hs⟩ : ∃ s : Int, s = -1 := ⟨_, rfl⟩
    have hsg : x.natAbs ≠ 0 → s = sg x := fun _ => by rw [hs, sg_neg h]
    refine qL (σ := Int × List VT) (fun s => [(4, .v (.int .u64 s.1))]) (fun s => [(0, .row 3 1 s.2)]) (fun s => ∃ (u : Nat) (acc : List Int), s.1 = u ∧ u < 18446744073709551616 ∧ s.2 = ns acc ∧ acc ++ dig u = dig x.natAbs) (fun s => s.1.toNat) (IntKind.u64.wrap (0 - IntKind.u64.wrap x), []) rfl rfl ⟨x.natAbs, [], e, by omega, rfl, rfl⟩ ?_
  case' refine_2 =>
    have e : IntKind.u64.wrap x = (x.natAbs : Int) := by rw [wrapu64]; omega
    obtain ⟨s, hs⟩ : ∃ s : Int, s = 1 := ⟨_, rfl⟩
    have hsg : x.natAbs ≠ 0 → s = sg x := fun _ => by rw [hs, sg_pos (by omega)]
    refine qL (σ := Int × List VT) (fun s => [(4, .v (.int .u64 s.1))]) (fun s => [(0, .row 3 1 s.2)]) (fun s => ∃ (u : Nat) (acc : List Int), s.1 = u ∧ u < 18446744073709551616 ∧ s.2 = ns acc ∧ acc ++ dig u = dig x.natAbs) (fun s => s.1.toNat) (IntKind.u64.wrap x, []) rfl rfl ⟨x.natAbs, [], e, by omega, rfl, rfl⟩ ?_
  all_goals
    rintro ⟨u', xs⟩ ⟨u, acc, hu, hlt, hxs, hacc⟩ ih
    dsimp only at hu hxs
    subst hu hxs
    refine qC rfl (fun h3 => ?_) (fun h3 => ?_)
    · have h3 : 0 < (u : Int) := h3
      have hu0 : u ≠ 0 := by omega
      rw [dig_pos hu0] at hacc
      have hal : acc.length < 1099511627776 := by
        have := congrArg List.length hacc
        simp only [List.length_append, List.length_cons] at this
        omega
      refine qA 8 rfl rfl (by show ((ns acc).length + 1) * 8 ≤ _; rw [hlm]; omega) (qV rfl (shr_u64 _) ?_)
      have e1 : (u : Int) / 1048576 = ((u / 1048576 : Nat) : Int) := by omega
      have e2 : (u : Int) % 1048576 = ((u % 1048576 : Nat) : Int) := by omega
      refine qB (ih ((u : Int) / 1048576, ns acc ++ [N (IntKind.i64.wrap (iand .u64 (u : Int) 1048575))]) ⟨u / 1048576, acc ++ [((u % 1048576 : Nat) : Int)], e1, by omega, ?_, by rw [← hacc]; simp⟩ ?_) (by kernel_rfl)
      · dsimp only
        rw [iand_masku (by omega) (by omega), e2, wrap_i64 (by omega) (by omega)]; simp [ns]
      · dsimp only; rw [e1]; omega
    · have h3 : ¬ 0 < (u : Int) := h3
      obtain rfl : u = 0 := by omega
      rw [dig_zero, List.append_nil] at hacc
      subst hacc
      have h6 := signed_e s x.natAbs (by omega)
      rw [signed_toB x rfl hsg, hs] at h6
      exact qK rfl h6 rfl (qR rfl ⟨rfl, rfl⟩)
theorem int_e {x : Int} {k : Nat} (h : Sm k x) (hk : k < 1099511627776) : EvF tt 75 [.v (eB (toB x))] (if -9223372036854775808 ≤ x ∧ x ≤ 9223372036854775807 then .tup [I x, B true] else .tup [I 0, B false]) := by
  refine evF (eIn Tryz.func75 rfl rfl ?_)
  refine qK rfl (rt h hk) rfl (qN rfl rfl ?_)
  refine qC rfl (fun h4 => ?_) (fun h4 => ?_)
  · have h4 : 4 < ((ns (dig x.natAbs)).length : Int) := h4
    rw [hlm] at h4
    exact qR rfl ⟨by rw [if_neg (fun hx => by have := len64 (u := x.natAbs) (by omega); omega)]; rfl, rfl⟩
  have h4 : ¬ 4 < ((ns (dig x.natAbs)).length : Int) := h4
  rw [hlm] at h4
  have hD := InR_dig x.natAbs
  have hv := val_dig x.natAbs
  have hsx := sg_cases x
  obtain ⟨D, hDe⟩ : ∃ D, D = dig x.natAbs := ⟨_, rfl⟩
  refine qL (σ := Int × Int) (fun s => [(19, I s.1), (4, .v (.int .u64 s.2))]) (fun _ => []) (fun s => ∃ k : Nat, s.1 = k ∧ k ≤ (dig x.natAbs).length ∧ s.2 = val ((dig x.natAbs).take k)) (fun s => (dig x.natAbs).length - s.1.toNat) (0, 0) rfl rfl ⟨0, rfl, by omega, rfl⟩ ?_
  rintro ⟨i, u⟩ ⟨j, hi, hj, hu⟩ ih
  dsimp only at hi hu
  subst hi
  have hu0 : 0 ≤ u := by rw [hu]; exact val_nonneg (InR.take hD j)
  have hu1 : u < pw j := by have := val_lt (InR.take hD j); rw [← hu, List.length_take, Nat.min_eq_left hj] at this; exact this
  refine qC rfl (fun h5 => ?_) (fun h5 => ?_)
  · have h5 : (j : Int) < ((ns (dig x.natAbs)).length : Int) := h5
    rw [hlm] at h5
    have hinc := inc_k h5 (by omega)
    refine qXm rfl ⟨by show 0 ≤ (j : Int); omega, by show (j : Int) < ((dig x.natAbs).length : Int); omega⟩ fun d hd _ => ?_
    have hd : (dig x.natAbs)[(j : Int).toNat]? = some d := hd
    rw [Int.toNat_natCast] at hd
    have hdr := hD d (List.mem_of_getElem? hd)
    have htk : val ((dig x.natAbs).take (j + 1)) = u + d * pw j := by
      rw [List.take_add_one, hd, val_append, ← hu, List.length_take, Nat.min_eq_left hj]
      simp only [Option.toList_some, val, Int.mul_zero, Int.add_zero]
      rw [Int.mul_comm]
    have hpj : pw j ≤ pw 3 := pw_mono (by omega)
    have hp3 : pw 3 = 1152921504606846976 := by decide
    have hp := pw_pos j
    have hgo : (j = 3 → d ≤ 8) → ior .u64 u (d * 2 ^ (20 * j)) = u + d * 2 ^ (20 * j) ∧ shl .u64 (IntKind.u64.wrap d) (imul .i64 20 (j : Int)) = some (d * 2 ^ (20 * j)) := fun h8 => by
      have hq : u + d * pw j < 18446744073709551616 := by
        rcases Nat.lt_or_ge j 3 with h3 | h3
        · have h5 : pw (j + 1) ≤ pw 3 := pw_mono (by omega)
          have h6 : (d + 1) * pw j ≤ 1048576 * pw j := Int.mul_le_mul_of_nonneg_right (by omega) (Int.le_of_lt hp)
          simp only [pw] at h5
          rw [Int.add_mul, Int.one_mul] at h6
          omega
        · have : j = 3 := by omega
          subst this
          have := h8 rfl
          rw [hp3] at hu1 ⊢
          omega
      have hq0 : 0 ≤ d * pw j := Int.mul_nonneg hdr.1 (Int.le_of_lt hp)
      have e2 : imul .i64 20 (j : Int) = ((20 * j : Nat) : Int) := by rw [imul_i64 (by omega) (by omega)]; omega
      have e3 : IntKind.u64.wrap d = d := by rw [wrapu64]; omega
      rw [pw_two] at hq hu1 hq0
      exact ⟨ior_u64 hu0 hu1 hdr.1 hq, by rw [e2, e3]; exact shl_u64 (by omega) hdr.1 (by omega)⟩
    refine qC rfl (fun h6 => ?ka) (fun h6 => ?kb)
    case' ka =>
      have h6 : (j : Int) = 3 := h6
      refine qC rfl (fun h7 => ?kc) (fun h7 => ?kd)
    case kc =>
      have h7 : 8 < d := h7
      refine qR rfl ⟨?_, rfl⟩
      rw [if_neg]; rfl
      intro hx
      obtain rfl : j = 3 := by omega
      have h8 := val_append ((dig x.natAbs).take 4) ((dig x.natAbs).drop 4)
      rw [List.take_append_drop, hv, htk, hp3] at h8
      have h9 := val_nonneg (InR.drop hD 4)
      have h10 : 0 ≤ pw ((dig x.natAbs).take 4).length * val ((dig x.natAbs).drop 4) := Int.mul_nonneg (Int.le_of_lt (pw_pos _)) h9
      omega
    case' kd =>
      obtain ⟨e5, e6⟩ := hgo (fun _ => by have h7 : ¬ 8 < d := h7; omega)
    case' kb =>
      obtain ⟨e5, e6⟩ := hgo (fun h => by have h6 : ¬ (j : Int) = 3 := h6; omega)
    all_goals
      refine qV rfl e6 (qB (ih (iadd .i64 (j : Int) 1, ior .u64 u (d * 2 ^ (20 * j))) ⟨j + 1, hinc.1, by omega, by rw [htk, pw_two]; exact e5⟩ hinc.2) (by kernel_rfl))
  · have h5 : ¬ (j : Int) < ((ns (dig x.natAbs)).length : Int) := h5
    rw [hlm] at h5
    obtain rfl : j = (dig x.natAbs).length := by omega
    rw [List.take_length, hv] at hu
    subst hu
    refine qC rfl (fun h6 => ?_) (fun h6 => ?_)
    · have h6 : sg x < 0 := h6
      refine qC rfl (fun h7 => ?_) (fun h7 => ?_)
      · have h7 : (x.natAbs : Int) ≤ 9223372036854775808 := h7
        refine qR rfl ⟨?_, rfl⟩
        show DV.tup [I (IntKind.i64.wrap (IntKind.u64.wrap (0 - (x.natAbs : Int)))), B true] = _
        rw [if_pos (by omega)]
        congr 3
        rw [Rt.wrap64, wrapu64]; congr 1; split <;> omega
      · have h7 : ¬ (x.natAbs : Int) ≤ 9223372036854775808 := h7
        refine qN rfl ?_ (qR rfl ⟨by rw [if_neg (by omega)]; rfl, rfl⟩)
        show decide (0 ≤ sg x) = false
        simp; omega
    · have h6 : ¬ sg x < 0 := h6
      refine qT rfl (by show decide (0 ≤ sg x) = true; simp; omega) ?_
      refine qC rfl (fun h7 => ?_) (fun h7 => ?_)
      · have h7 : (x.natAbs : Int) < 9223372036854775808 := h7
        refine qR rfl ⟨?_, rfl⟩
        show DV.tup [I (IntKind.i64.wrap (x.natAbs : Int)), B true] = _
        rw [if_pos (by omega), wrap_i64 (by omega) (by omega)]
        congr 3; congr 1; omega
      · have h7 : ¬ (x.natAbs : Int) < 9223372036854775808 := h7
        exact qR rfl ⟨by rw [if_neg (by omega)]; rfl, rfl⟩
end Go.Proofs.YteekaonhdckicaaGreatDoor.Dp

namespace Go.Proofs.YteekaonhdckicaaGreatDoor.Dp
open Go Go.RowKit Go.Proofs.YteekaonhdckicaaGreatDoor.Rt Go.Proofs Go.Proofs.YteekaonhdckicaaGreatDoor.D
set_option linter.unusedVariables false
set_option maxHeartbeats 4000000
set_option maxRecDepth 100000
theorem one_e {x : Int} {k : Nat} (h : Sm k x) (hk : k < 1099511627776) : EvF tt 31 [.v (eB (toB x))] (B (decide (x = 1))) := by
  refine evF (eIn Tryz.func31 rfl rfl ?_)
  have hi := int_e h hk
  by_cases hr : -9223372036854775808 ≤ x ∧ x ≤ 9223372036854775807
  · rw [if_pos hr] at hi
    refine qK rfl hi rfl (qT rfl rfl (qR rfl ⟨?_, rfl⟩))
    by_cases hx : x = 1
    · rw [hx]; rfl
    · rw [decide_eq_false hx]; exact congrArg B (beq_eq_false_iff_ne.2 hx)
  · rw [if_neg hr] at hi
    refine qK rfl hi rfl (qN rfl rfl (qR rfl ⟨?_, rfl⟩))
    rw [decide_eq_false (by omega)]; rfl
theorem fright_e {f : Frac} {k : Nat} (hp : f.P.Digits.length ≤ k) (hq : f.Q.Digits.length ≤ k) (hk : k < 8388608) : EvF tt 9 [.v (eF f)] (B (rightf f)) := by
  refine evF (eIn Tryz.func9 rfl rfl ?_)
  refine qK rfl (right_e f.P (by omega)) rfl ?_
  have hrf : rightf f = (rightb f.P && rightb f.Q && (f.Q.Sign == 1) && (Nat.gcd (ofB f.P).natAbs (ofB f.Q).natAbs == 1)) := rfl
  refine qC rfl (fun h1 => ?_) (fun h1 => ?_)
  · have h1 : rightb f.P = false := by cases h : rightb f.P <;> simp_all
    exact qR rfl ⟨by rw [hrf, h1]; rfl, rfl⟩
  have h1 : rightb f.P = true := by cases h : rightb f.P <;> simp_all
  refine qK rfl (right_e f.Q (by omega)) rfl ?_
  refine qC rfl (fun h2 => ?_) (fun h2 => ?_)
  · have h2 : rightb f.Q = false := by cases h : rightb f.Q <;> simp_all
    exact qR rfl ⟨by rw [hrf, h1, h2]; rfl, rfl⟩
  have h2 : rightb f.Q = true := by cases h : rightb f.Q <;> simp_all
  refine qC rfl (fun h3 => ?_) (fun h3 => ?_)
  · exact qR rfl ⟨by rw [hrf, h1, h2, beq_eq_false_iff_ne.2 h3]; rfl, rfl⟩
  have h3 : f.Q.Sign = 1 := Classical.byContradiction h3
  obtain ⟨x, hx⟩ := toB_of_right h1
  obtain ⟨y, hy⟩ := toB_of_right h2
  have s1 : Sm k x := sm_of_len (by have : (toB x).Digits.length ≤ k := hx ▸ hp; exact this)
  have s2 : Sm k y := sm_of_len (by have : (toB y).Digits.length ≤ k := hy ▸ hq; exact this)
  have hg := gcd_e s1 s2 hk
  rw [← hx, ← hy] at hg
  have ho := one_e (gcd_sm2 s1 s2) (by omega)
  refine qK rfl hg rfl (qT rfl rfl (qK rfl ho rfl ?_))
  have hr : rightf f = decide (((Nat.gcd x.natAbs y.natAbs : Nat) : Int) = 1) := by
    rw [hrf, h1, h2, h3, hx, hy, ofB_toB, ofB_toB]
    by_cases h : Nat.gcd x.natAbs y.natAbs = 1
    · rw [h]; rfl
    · rw [decide_eq_false (by omega)]; simp [h]
  rw [hr]
  first
    | exact qR rfl ⟨rfl, rfl⟩
    | exact qE rfl (by kernel_rfl) (by kernel_rfl) (qR rfl ⟨rfl, rfl⟩)
theorem fright {r : Rat} {k : Nat} (h : SmF k r) (hk : k < 8388608) : EvF tt 9 [.v (eF (toF r))] (B true) := by
  have := fright_e (f := toF r) (toF_len h).1 (toF_len h).2 hk
  rwa [rightf_toF] at this
section
variable {p q : Int} {k : Nat} (hp : Sm k p) (hq : Sm k q) (hk : k < 8388608)
include hp hq hk
theorem new_e (h0 : q ≠ 0) : EvF tt 70 [.v (eB (toB p)), .v (eB (toB q))] (.tup [.v (eF (toF (Rat.divInt p q))), I 0]) := by
  refine evF (eIn Tryz.func70 rfl rfl ?_)
  refine qK rfl (rt hp (by omega)) rfl (qN rfl rfl (qK rfl (rt hq (by omega)) rfl (qN rfl rfl ?_)))
  refine qN rfl (by show (sg q == 0) = false; rcases sg_cases q with h | h | h <;> first | (rw [h.2]; rfl) | omega) ?_
  have hcore : ∀ {p q : Int}, Sm k p → Sm k q → 0 < q → ∃ x y g : Int, Sm k g ∧ g ≠ 0 ∧ EvF tt 30 [.v (eB (toB p)), .v (eB (toB q))] (.tup [.v (eB (toB g)), I 0]) ∧ EvF tt 128 [.v (eB (toB p)), .v (eB (toB g))] (.tup [.v (eB (toB (dq p g))), .v (eB (toB x)), I 0]) ∧
      EvF tt 128 [.v (eB (toB q)), .v (eB (toB g))] (.tup [.v (eB (toB (dq q g))), .v (eB (toB y)), I 0]) ∧ toF (Rat.divInt p q) = ⟨toB (dq p g), toB (dq q g)⟩ := by
    intro p q hp hq h0
    have hg : 0 < Nat.gcd p.natAbs q.natAbs := Nat.gcd_pos_of_pos_right _ (by omega)
    have hgs := gcd_sm2 hp hq
    obtain ⟨e1, e2⟩ := divInt_pos (p := p) h0
    exact ⟨_, _, _, hgs, by omega, gcd_e hp hq hk, bdiv_e hp hgs hk (by omega), bdiv_e hq hgs hk (by omega), by unfold toF; rw [e1, e2, ← dq_pos (by omega), ← dq_pos (by omega)]⟩
  refine qC rfl (fun hn => ?_) (fun hn => ?_)
  · have hn : sg q < 0 := hn
    have hs := sg_cases q
    refine qK rfl (neg_e hp (by omega)) rfl (qK rfl (neg_e hq (by omega)) rfl ?_)
    obtain ⟨x, y, g, g1, g2, g3, g4, g5, g6⟩ := hcore hp.neg hq.neg (by omega)
    rw [divInt_neg2, g6]
    first
      | refine qK rfl g3 rfl (qK rfl g4 rfl (qK rfl g5 rfl ?_))
      | refine qE rfl (by kernel_rfl) (by kernel_rfl) (qK rfl g3 rfl (qK rfl g4 rfl (qK rfl g5 rfl ?_)))
    exact qR rfl ⟨rfl, rfl⟩
  · have hn : ¬ sg q < 0 := hn
    have hs := sg_cases q
    obtain ⟨x, y, g, g1, g2, g3, g4, g5, g6⟩ := hcore hp hq (by omega)
    rw [g6]
    exact qK rfl g3 rfl (qK rfl g4 rfl (qK rfl g5 rfl (qR rfl ⟨rfl, rfl⟩)))
omit hk in
theorem times_e (hk : k < 268435456) : EvF tt 151 [.v (eB (toB p)), .v (eB (toB q))] (.v (eB (toB (p * q)))) := by
  refine evF (eIn Tryz.func151 rfl rfl ?_)
  exact qK rfl (bmul_e hp hq hk) rfl (qR rfl ⟨rfl, rfl⟩)
end
theorem slim_e {x : Int} {k : Nat} (h : Sm k x) (hk : k < 1073741824) : EvF tt 306 [.v (eB (toB x))] (.v (eB (toB x))) := by
  refine evF (eIn Tryz.func306 rfl rfl ?_)
  refine qK rfl (neg_e h hk) rfl (qK rfl (neg_e h.neg hk) rfl (qR rfl ⟨?_, rfl⟩))
  rw [Int.neg_neg]; rfl
section
variable {a b : Rat} {j k : Nat} (ha : SmF j a) (hb : SmF k b) (hk : j + k < 4000000)
include ha hb hk
theorem tPQ : EvF tt 151 [.v (eB (toF a).P), .v (eB (toF b).Q)] (.v (eB (toB (a.num * b.den)))) := times_e (ha.1.mono (by omega : j ≤ j + k)) (hb.2.mono (by omega : k ≤ j + k)) (by omega)
theorem tPP : EvF tt 151 [.v (eB (toF a).P), .v (eB (toF b).P)] (.v (eB (toB (a.num * b.num)))) := times_e (ha.1.mono (by omega : j ≤ j + k)) (hb.1.mono (by omega : k ≤ j + k)) (by omega)
theorem tQQ : EvF tt 151 [.v (eB (toF a).Q), .v (eB (toF b).Q)] (.v (eB (toB ((a.den : Int) * b.den)))) := times_e (ha.2.mono (by omega : j ≤ j + k)) (hb.2.mono (by omega : k ≤ j + k)) (by omega)
theorem fadd_e : EvF tt 218 [.v (eF (toF a)), .v (eF (toF b))] (.tup [.v (eF (toF (a + b))), I 0]) := by
  have m1 : Sm (j + k + 1) (a.num * b.den) := (ha.1.mul hb.2).mono (by omega)
  have m2 : Sm (j + k + 1) (b.num * a.den) := (hb.1.mul ha.2).mono (by omega)
  have m3 : Sm (j + k + 1) ((a.den : Int) * b.den) := (ha.2.mul hb.2).mono (by omega)
  have m4 : Sm (j + k + 1) (a.num * b.den + b.num * a.den) := (ha.1.mul hb.2).add ((hb.1.mul ha.2).mono (by omega))
  have hn := new_e m4 m3 (by omega) (mul_ne (den_ne a) (den_ne b))
  rw [← rat_add] at hn
  refine evF (eIn Tryz.func218 rfl rfl ?_)
  refine qK rfl (fright ha (by omega)) rfl (qN rfl rfl (qK rfl (fright hb (by omega)) rfl (qN rfl rfl ?_)))
  refine qK rfl (tPQ ha hb hk) rfl (qK rfl (tPQ hb ha (by omega)) rfl (qK rfl (badd_e m1 m2 (by omega)) rfl (qE rfl (by kernel_rfl) (by kernel_rfl) ?_)))
  refine qK rfl (tQQ ha hb hk) rfl (qK rfl hn rfl ?_)
  first
    | exact qR rfl ⟨rfl, rfl⟩
    | exact qE rfl (by kernel_rfl) (by kernel_rfl) (qR rfl ⟨rfl, rfl⟩)
theorem fmul_e : EvF tt 172 [.v (eF (toF a)), .v (eF (toF b))] (.tup [.v (eF (toF (a * b))), I 0]) := by
  have hn := new_e (ha.1.mul hb.1) (ha.2.mul hb.2) (by omega) (mul_ne (den_ne a) (den_ne b))
  rw [← rat_mul] at hn
  refine evF (eIn Tryz.func172 rfl rfl ?_)
  refine qK rfl (fright ha (by omega)) rfl (qN rfl rfl (qK rfl (fright hb (by omega)) rfl (qN rfl rfl ?_)))
  refine qK rfl (tPP ha hb hk) rfl (qK rfl (tQQ ha hb hk) rfl (qK rfl hn rfl ?_))
  first
    | exact qR rfl ⟨rfl, rfl⟩
    | exact qE rfl (by kernel_rfl) (by kernel_rfl) (qR rfl ⟨rfl, rfl⟩)
theorem fsub_e : EvF tt 217 [.v (eF (toF a)), .v (eF (toF b))] (.tup [.v (eF (toF (a - b))), I 0]) := by
  have h := fadd_e ha hb.neg hk
  rw [← Rat.sub_eq_add_neg] at h
  refine evF (eIn Tryz.func217 rfl rfl ?_)
  refine qK rfl (fright ha (by omega)) rfl (qN rfl rfl (qK rfl (fright hb (by omega)) rfl (qN rfl rfl ?_)))
  refine qK rfl (neg_e hb.1 (by omega)) rfl (qK rfl h rfl ?_)
  first
    | exact qR rfl ⟨rfl, rfl⟩
    | exact qE rfl (by kernel_rfl) (by kernel_rfl) (qR rfl ⟨rfl, rfl⟩)
theorem fcmp_e : EvF tt 85 [.v (eF (toF a)), .v (eF (toF b))] (I (cmpQ a b)) := by
  refine evF (eIn Tryz.func85 rfl rfl ?_)
  refine qK rfl (fright ha (by omega)) rfl (qN rfl rfl (qK rfl (fright hb (by omega)) rfl (qN rfl rfl ?_)))
  refine qK rfl (tPQ ha hb hk) rfl (qK rfl (tPQ hb ha (by omega)) rfl (qK rfl (bcompare_e (ha.1.mul hb.2) ((hb.1.mul ha.2).mono (by omega)) (by omega)) rfl ?_))
  first
    | exact qR rfl ⟨rfl, rfl⟩
    | exact qE rfl (by kernel_rfl) (by kernel_rfl) (qR rfl ⟨rfl, rfl⟩)
theorem either_e (s : Int) (hs : s = 1 ∨ s = -1) : EvF tt 272 [.v (eF (toF a)), .v (eF (toF b)), .v (N s)] (.tup [.v (eF (toF (if cmpQ a b * s < 0 then b else a))), I 0]) := by
  have hr := sg_range (a.num * b.den - b.num * a.den)
  have e : imul .i64 (cmpQ a b) s = cmpQ a b * s := by
    have h1 : -1 ≤ cmpQ a b := hr.1
    have h2 : cmpQ a b ≤ 1 := hr.2
    exact imul_i64 (by rcases hs with rfl | rfl <;> omega) (by rcases hs with rfl | rfl <;> omega)
  refine evF (eIn Tryz.func272 rfl rfl ?_)
  refine qK rfl (fright ha (by omega)) rfl (qN rfl rfl (qK rfl (fright hb (by omega)) rfl (qN rfl rfl ?_)))
  refine qK rfl (fcmp_e ha hb hk) rfl ?_
  refine qC rfl (fun h => ?_) (fun h => ?_)
  · have h : imul .i64 (cmpQ a b) s < 0 := h
    rw [e] at h
    rw [if_pos h]
    refine qK rfl (slim_e hb.1 (by omega)) rfl (qK rfl (slim_e hb.2 (by omega)) rfl ?_)
    first
      | exact qR rfl ⟨rfl, rfl⟩
      | exact qE rfl (by kernel_rfl) (by kernel_rfl) (qR rfl ⟨rfl, rfl⟩)
  · have h : ¬ imul .i64 (cmpQ a b) s < 0 := h
    rw [e] at h
    rw [if_neg h]
    refine qK rfl (slim_e ha.1 (by omega)) rfl (qK rfl (slim_e ha.2 (by omega)) rfl ?_)
    first
      | exact qR rfl ⟨rfl, rfl⟩
      | exact qE rfl (by kernel_rfl) (by kernel_rfl) (qR rfl ⟨rfl, rfl⟩)
theorem fmax_e : EvF tt 219 [.v (eF (toF a)), .v (eF (toF b))] (.tup [.v (eF (toF (if a < b then b else a))), I 0]) := by
  have h := either_e ha hb hk 1 (.inl rfl)
  have e : (if cmpQ a b * 1 < 0 then b else a) = if a < b then b else a := by
    rcases cmpQ_cases a b with ⟨h, e⟩ | ⟨h, e⟩ | ⟨h, e⟩
    · rw [e, if_pos (by decide), if_pos h]
    · rw [e, if_neg (by decide), if_neg (by grind)]
    · rw [e, if_neg (by decide), if_neg (by grind)]
  rw [e] at h
  exact evF (eIn Tryz.func219 rfl rfl (qK rfl h rfl (qR rfl ⟨rfl, rfl⟩)))
end
section
variable {a : Rat} {k : Nat} (ha : SmF k a) (hk : k < 4000000)
include ha hk
theorem fsign_e : EvF tt 88 [.v (eF (toF a))] (I (sg a.num)) :=
  evF (eIn Tryz.func88 rfl rfl (qK rfl (fright ha (by omega)) rfl (qN rfl rfl (qR rfl ⟨rfl, rfl⟩))))
end
theorem fint_e {x : Int} (h1 : -9223372036854775808 ≤ x) (h2 : x ≤ 9223372036854775807) : EvF tt 18 [.v (N x)] (.v (eF (toF (x : Rat)))) := by
  have e : toF (x : Rat) = ⟨toB x, toB 1⟩ := by unfold toF; rw [Rat.num_intCast, Rat.den_intCast]; rfl
  rw [e]
  exact evF (eIn Tryz.func18 rfl rfl (qK rfl (of_e h1 h2) rfl (qK rfl (of_e (x := 1) (by decide) (by decide)) rfl (qR rfl ⟨rfl, rfl⟩))))
theorem fof_e {x y : Int} (h1 : -9223372036854775808 ≤ x) (h2 : x ≤ 9223372036854775807) (h3 : -9223372036854775808 ≤ y) (h4 : y ≤ 9223372036854775807) (h0 : y ≠ 0) : EvF tt 26 [.v (N x), .v (N y)] (.tup [.v (eF (toF (Rat.divInt x y))), I 0]) := by
  have s1 : Sm 4 x := sm_of_len (len64 (by omega))
  have s2 : Sm 4 y := sm_of_len (len64 (by omega))
  exact evF (eIn Tryz.func26 rfl rfl (qK rfl (of_e h1 h2) rfl (qK rfl (of_e h3 h4) rfl (qK rfl (new_e s1 s2 (by decide) h0) rfl (qR rfl ⟨rfl, rfl⟩)))))
end Go.Proofs.YteekaonhdckicaaGreatDoor.Dp

namespace Go.Proofs.YteekaonhdckicaaGreatDoor.Dp
open Go Go.RowKit Go.Proofs.YteekaonhdckicaaGreatDoor.Rt Go.Proofs Go.Proofs.YteekaonhdckicaaGreatDoor.D
set_option linter.unusedVariables false
structure Plc where
  Kind : Int
  Household : Int
  Material : Int
structure Mve where
  Day : Int
  From : Int
  To : Int
  Scale : Int
  Reading : Int
  All : Bool
structure Crt where
  Scale : Int
  From : Int
  Until : Int
  Grams : Int
  PerMille : Int
  Drift : Int
structure Rcl where
  Scale : Int
  Since : Int
structure Pur where
  Move : Int
  Material : Int
  Least : Int
  Most : Int
structure Evi where
  Materials : Int
  Households : Int
  Scales : Int
  Places : List Plc
  Moves : List Mve
  Certs : List Crt
  Recalls : List Rcl
  Purities : List Pur
def ePl (p : Plc) : VT := .agg [N p.Kind, N p.Household, N p.Material]
def eMo (m : Mve) : VT := .agg [N m.Day, N m.From, N m.To, N m.Scale, N m.Reading, .bool m.All]
def eCr (c : Crt) : VT := .agg [N c.Scale, N c.From, N c.Until, N c.Grams, N c.PerMille, N c.Drift]
def eRc (r : Rcl) : VT := .agg [N r.Scale, N r.Since]
def ePu (p : Pur) : VT := .agg [N p.Move, N p.Material, N p.Least, N p.Most]
def eEv (e : Evi) : VT := .agg [N e.Materials, N e.Households, N e.Scales, .sl (e.Places.map ePl), .sl (e.Moves.map eMo), .sl (e.Certs.map eCr), .sl (e.Recalls.map eRc), .sl (e.Purities.map ePu)]
def idx (i n : Int) : Bool := decide (0 ≤ i) && decide (i < n)
def btw (n lo hi : Int) : Bool := decide (lo ≤ n) && decide (n ≤ hi)
theorem idx_iff {i n : Int} : idx i n = true ↔ 0 ≤ i ∧ i < n := by simp [idx]
theorem btw_iff {i n m : Int} : btw i n m = true ↔ n ≤ i ∧ i ≤ m := by simp [btw]
def fullE (e : Evi) : Bool := decide (6 < e.Materials) || decide (100 < e.Households) || decide (30 < e.Scales) || decide (100 < e.Places.length) || decide (200 < e.Moves.length) || decide (100 < e.Certs.length) || decide (30 < e.Recalls.length) || decide (200 < e.Purities.length)
def plcR (e : Evi) (p : Plc) : Bool := idx p.Kind 7 && (if p.Kind = 0 then idx p.Household e.Households && idx p.Material e.Materials else decide (p.Household = -1) && decide (p.Material = -1))
def kindAt (e : Evi) (i : Int) : Int := match e.Places[i.toNat]? with
  | some p => p.Kind
  | none => 0
def movR (e : Evi) (m : Mve) : Bool :=
  if idx m.From e.Places.length = false ∨ idx m.To e.Places.length = false ∨ m.From = m.To then false
  else if kindAt e m.From = 5 ∨ kindAt e m.From = 6 then false
  else if kindAt e m.From = 0 ∧ m.All = true then false
  else if kindAt e m.To = 0 then false
  else if m.Scale = -1 then decide (m.Reading = 0)
  else idx m.Scale e.Scales && btw m.Reading 0 1099511627776
def crtR (e : Evi) (c : Crt) : Bool := decide (0 ≤ c.From) && decide (c.From ≤ c.Until) && decide (c.Until ≤ 100000) && idx c.Scale e.Scales && btw c.Grams 0 1099511627776 && btw c.PerMille 0 1000 && btw c.Drift 0 10000000
def rclR (e : Evi) (r : Rcl) : Bool := idx r.Scale e.Scales && btw r.Since 0 100000
def purR (e : Evi) (p : Pur) : Bool := idx p.Move e.Moves.length && idx p.Material e.Materials && decide (0 ≤ p.Least) && decide (p.Least ≤ p.Most) && decide (p.Most ≤ 1000)
def saidR (e : Evi) : Bool := e.Certs.all (crtR e) && e.Recalls.all (rclR e) && e.Purities.all (purR e)
def chkM (e : Evi) : Int → List Mve → Int
  | _, [] => 0
  | last, m :: l => if m.Day < last ∨ 100000 < m.Day then 17 else if movR e m = false then 1 else chkM e m.Day l
def flowC (e : Evi) : Int := if fullE e = true then 6
  else if e.Materials < 1 ∨ e.Households < 0 ∨ e.Scales < 0 ∨ e.Places.all (plcR e) = false then 1
  else if chkM e 0 e.Moves ≠ 0 then chkM e 0 e.Moves
  else if saidR e = true then 0 else 1
def crtRight (c : Crt) : Bool := decide (0 ≤ c.From) && decide (c.From ≤ c.Until) && decide (c.Until ≤ 100000) && btw c.Scale 0 29 && btw c.Grams 0 1099511627776 && btw c.PerMille 0 1000 && btw c.Drift 0 10000000
def covC (c : Crt) (day : Int) : Bool := crtRight c && decide (c.From ≤ day) && decide (day ≤ c.Until)
def fromAt (cs : List Crt) (b : Nat) : Int := match cs[b]? with
  | some c => c.From
  | none => 0
def findC (cs : List Crt) (sc day : Int) : Nat → List Crt → Nat × Bool → Nat × Bool
  | _, [], s => s
  | i, c :: l, s => findC cs sc day (i + 1) l (if c.Scale = sc ∧ covC c day = true ∧ (s.2 = false ∨ fromAt cs s.1 ≤ c.From) then (i, true) else s)
def rcld (rs : List Rcl) (sc day : Int) : Bool := rs.any fun r => decide (r.Scale = sc) && decide (r.Since ≤ day)
def errC (c : Crt) (reading day : Int) : Rat := Rat.divInt (c.PerMille * reading) 1000 + ((c.Grams + c.Drift * (day - c.From) : Int) : Rat)
def maxQ (a b : Rat) : Rat := if a < b then b else a
def itvl (e : Evi) (m : Mve) : Option (Rat × Rat) := match findC e.Certs m.Scale m.Day 0 e.Certs (0, false) with
  | (at_, true) => if rcld e.Recalls m.Scale m.Day = true then none else match e.Certs[at_]? with
    | some c => if covC c m.Day = true ∧ btw m.Reading 0 1099511627776 = true then some (maxQ (m.Reading - errC c m.Reading m.Day) 0, m.Reading + errC c m.Reading m.Day) else none
    | none => none
  | _ => none
abbrev Trm := Int × Rat
structure Rw where
  Terms : List Trm
  Kind : Int
  Value : Rat
structure Org where
  Kind : Int
  Move : Int
  Material : Int
  Index : Int
def eTm (t : Trm) : VT := .agg [N t.1, N (toF t.2).P.Sign, .sl (ns (toF t.2).P.Digits), N (toF t.2).Q.Sign, .sl (ns (toF t.2).Q.Digits)]
def eRw (r : Rw) : VT := .agg [.sl (r.Terms.map eTm), N r.Kind, N (toF r.Value).P.Sign, .sl (ns (toF r.Value).P.Digits), N (toF r.Value).Q.Sign, .sl (ns (toF r.Value).Q.Digits)]
def eOr (o : Org) : VT := .agg [N o.Kind, N o.Move, N o.Material, N o.Index]
def zipI {α : Type} : Nat → List α → List (Nat × α)
  | _, [] => []
  | i, x :: l => (i, x) :: zipI (i + 1) l
def stkT1 (e : Evi) (x : Mve) (mat : Nat) (q : Nat × Mve) : Option Trm :=
  if q.2.From = x.From then some (q.1 * e.Materials + mat, -1) else if q.2.To = x.From then some (q.1 * e.Materials + mat, 1) else none
def stkR (e : Evi) (i : Nat) (x : Mve) (mat : Nat) : Rw := ⟨(zipI 0 (e.Moves.take (i + 1))).filterMap (stkT1 e x mat), if x.All = true then 2 else 0, 0⟩
def sumT1 (e : Evi) (i : Nat) (by' own more : Int) (mat : Nat) : Option Trm :=
  let c := if (mat : Int) = own then by' + more else by'
  if c = 0 then none else some (i * e.Materials + mat, c)
def sumT (e : Evi) (i : Nat) (by' own more : Int) : List Trm := (List.range e.Materials.toNat).filterMap (sumT1 e i by' own more)
def stks (e : Evi) (i : Nat) (x : Mve) : List (Rw × Org) := if kindAt e x.From = 0 then [] else (List.range e.Materials.toNat).map fun mat => (stkR e i x mat, ⟨0, i, mat, -1⟩)
def wgts (e : Evi) (i : Nat) (x : Mve) : List (Rw × Org) := if x.Scale = -1 then [] else match itvl e x with
  | none => []
  | some (lo, hi) => [(⟨sumT e i 1 (-1) 0, 0, lo⟩, ⟨1, i, -1, -1⟩), (⟨sumT e i 1 (-1) 0, 1, hi⟩, ⟨2, i, -1, -1⟩)]
def purs1 (e : Evi) (i : Nat) (q : Nat × Pur) : List (Rw × Org) := if q.2.Move = i then
    [(⟨sumT e i (-q.2.Least) q.2.Material 1000, 0, 0⟩, ⟨3, i, -1, q.1⟩), (⟨sumT e i q.2.Most q.2.Material (-1000), 0, 0⟩, ⟨4, i, -1, q.1⟩)]
  else []
def purs (e : Evi) (i : Nat) : List (Rw × Org) := (zipI 0 e.Purities).flatMap (purs1 e i)
def rows1 (e : Evi) (q : Nat × Mve) : List (Rw × Org) := stks e q.1 q.2 ++ wgts e q.1 q.2 ++ purs e q.1
def rowsE (e : Evi) : List (Rw × Org) := (zipI 0 e.Moves).flatMap (rows1 e)
theorem dropAt {α : Type} {l : List α} {k : Nat} {a : α} (h : l[k]? = some a) : l.drop k = a :: l.drop (k + 1) := by
  obtain ⟨h1, h2⟩ := List.getElem?_eq_some_iff.1 h
  rw [List.drop_eq_getElem_cons h1, h2]
theorem take_at {α : Type} {l : List α} {k : Nat} {a : α} (h : l[k]? = some a) : l.take (k + 1) = l.take k ++ [a] := by
  rw [List.take_add_one, h]; rfl
theorem zipI_take {α : Type} : ∀ (l : List α) (i k : Nat) (a : α), l[k]? = some a → zipI i (l.take (k + 1)) = zipI i (l.take k) ++ [(i + k, a)]
  | [], _, _, _, h => by simp at h
  | x :: l, i, 0, a, h => by simp at h; subst h; simp [zipI]
  | x :: l, i, k + 1, a, h => by
    have := zipI_take l (i + 1) k a (by simpa using h)
    simp only [List.take_succ_cons, zipI, List.cons_append]
    rw [this, show i + 1 + k = i + (k + 1) by omega]
section
variable {P : Program} {T : Ty P} {fr : Fr} {s : St} {Q : DV → DH → Prop}
theorem qF {σ : Type} (n : Nat) (δ : Int → σ → List (Nat × DV)) (η : Int → σ → List (Nat × Ob)) (J : Nat → σ → Prop) (x0 : σ) {s1 : St} (h : rnA T fr 2000 s = .head s1) (h0 : upS s1 (δ 0 x0) (η 0 x0) = s1) (j0 : J 0 x0)
    (hk : ∀ (k : Nat) (x : σ), k ≤ n → J k x → (∀ (z : Int) (y : σ), z = ((k + 1 : Nat) : Int) → k < n → J (k + 1) y → Tt T fr (upS s1 (δ z y) (η z y)) Q) → Tt T fr (nrm (upS s1 (δ k x) (η k x))) Q) : Tt T fr s Q := by
  refine qL (σ := Int × σ) (fun q => δ q.1 q.2) (fun q => η q.1 q.2) (fun q => ∃ k : Nat, q.1 = k ∧ k ≤ n ∧ J k q.2) (fun q => n - q.1.toNat) (0, x0) h h0 ⟨0, rfl, Nat.zero_le _, j0⟩ ?_
  rintro ⟨i, x⟩ ⟨k, rfl, h1, h2⟩ ih
  refine hk k x h1 h2 fun z y hz hlt hy => ?_
  subst hz
  exact ih (_, y) ⟨k + 1, rfl, by omega, hy⟩ (by show n - ((k + 1 : Nat) : Int).toNat < n - (k : Int).toNat; omega)
def apH (H : DH) : List (Nat × Bool) → DH
  | [] => H
  | (i, a) :: l => apH (match getN H i with
    | some b => setN H i { b with ap := a }
    | none => H) l
def apS (s : St) (l : List (Nat × Bool)) : St := ⟨s.ctl, s.its, s.env, apH s.H l⟩
theorem qLs {σ : Type} (st : σ → St) (J : σ → Prop) (μ : σ → Nat) (x0 : σ) {s1 : St} (h : rnA T fr 2000 s = .head s1) (h0 : st x0 = s1) (j0 : J x0)
    (hk : ∀ x, J x → (∀ y, J y → μ y < μ x → Tt T fr (st y) Q) → Tt T fr (nrm (st x)) Q) : Tt T fr s Q := by
  simp only [nrm_eq] at hk
  refine tH h ?_
  rw [← h0]
  have : ∀ m x, J x → μ x < m → Tt T fr (st x) Q := by
    intro m
    induction m with
    | zero => intro x _ hx; omega
    | succ m ih => intro x jx hx; exact hk x jx fun y jy hy => ih y jy (by omega)
  exact this _ x0 j0 (Nat.lt_succ_self _)
theorem qFa {σ : Type} (n : Nat) (δ : Int → σ → List (Nat × DV)) (η : Int → σ → List (Nat × Ob)) (φ : σ → List (Nat × Bool)) (J : Nat → σ → Prop) (x0 : σ) {s1 : St} (h : rnA T fr 2000 s = .head s1) (h0 : apS (upS s1 (δ 0 x0) (η 0 x0)) (φ x0) = s1) (j0 : J 0 x0)
    (hk : ∀ (k : Nat) (x : σ), k ≤ n → J k x → (∀ (z : Int) (y : σ), z = ((k + 1 : Nat) : Int) → k < n → J (k + 1) y → Tt T fr (apS (upS s1 (δ z y) (η z y)) (φ y)) Q) → Tt T fr (nrm (apS (upS s1 (δ k x) (η k x)) (φ x))) Q) : Tt T fr s Q := by
  refine qLs (σ := Int × σ) (fun q => apS (upS s1 (δ q.1 q.2) (η q.1 q.2)) (φ q.2)) (fun q => ∃ k : Nat, q.1 = k ∧ k ≤ n ∧ J k q.2) (fun q => n - q.1.toNat) (0, x0) h h0 ⟨0, rfl, Nat.zero_le _, j0⟩ ?_
  rintro ⟨i, x⟩ ⟨k, rfl, h1, h2⟩ ih
  refine hk k x h1 h2 fun z y hz hlt hy => ?_
  subst hz
  exact ih (_, y) ⟨k + 1, rfl, by omega, hy⟩ (by show n - ((k + 1 : Nat) : Int).toNat < n - (k : Int).toNat; omega)
theorem qXl {cm : Bool} {α : Type} {g : α → VT} {l : List α} {k : Nat} {b : Bool} {s1 s2 : St} {kk : VT → St} (h : rnA T fr 2000 s = .cond b s1 s2) (hb : b = decide ((k : Int) < ((l.map g).length : Int))) (h2 : rnA T fr 2000 s1 = .ask cm VT (ix (l.map g) (k : Int)) kk) (hle : k ≤ l.length)
    (k1 : ∀ a, l[k]? = some a → l.drop k = a :: l.drop (k + 1) → k < l.length → Tt T fr (kk (g a)) Q) (k2 : l.drop k = [] → k = l.length → Tt T fr s2 Q) : Tt T fr s Q := by
  subst hb
  have hl : (l.map g).length = l.length := List.length_map ..
  by_cases hlt : k < l.length
  · refine qT h (decide_eq_true (by rw [hl]; omega)) ?_
    have h1 : l[k]? = some (l[k]'hlt) := List.getElem?_eq_getElem _
    refine qV h2 (v := g (l[k]'hlt)) ?_ (k1 _ h1 (dropAt h1) hlt)
    unfold ix
    rw [if_pos (by omega), List.getElem?_map, Int.toNat_natCast, h1]; rfl
  · exact qN h (decide_eq_false (by rw [hl]; omega)) (k2 (List.drop_eq_nil_of_le (by omega)) (by omega))
theorem qXi {cm : Bool} {α : Type} {g : α → VT} {l : List α} {z : Int} {a : α} {kk : VT → St} (h : rnA T fr 2000 s = .ask cm VT (ix (l.map g) z) kk) (h0 : 0 ≤ z) (ha : l[z.toNat]? = some a) (k1 : Tt T fr (kk (g a)) Q) : Tt T fr s Q := by
  have hlt := (List.getElem?_eq_some_iff.1 ha).1
  refine qV h (v := g a) ?_ k1
  unfold ix
  have hl : (l.map g).length = l.length := List.length_map ..
  rw [if_pos (by omega), List.getElem?_map, ha]; rfl
theorem next64 {k : Nat} (h : k < 9223372036854775807) : iadd .i64 (k : Int) 1 = ((k + 1 : Nat) : Int) := by rw [iadd_i64 (by omega) (by omega)]; rfl
end
end Go.Proofs.YteekaonhdckicaaGreatDoor.Dp

namespace Go.Proofs.YteekaonhdckicaaGreatDoor.Dp
open Go Go.Proofs.YteekaonhdckicaaGreatDoor.Rt Go.Proofs.YteekaonhdckicaaGreatDoor.D
set_option linter.unusedVariables false
def c8 (v : Nat) : UInt8 := UInt8.ofNat (48 + v % 10)
def five (v : Nat) : Bs := [c8 (v / 10000), c8 (v / 1000), c8 (v / 100), c8 (v / 10), c8 v]
theorem dec_big {v : Nat} (h : 10 ≤ v) : Lib.decDigits v = Lib.decDigits (v / 10) ++ [c8 v] := by
  rw [Lib.decDigits, dif_neg (by omega)]; rfl
theorem dec_small {v : Nat} (h : v < 10) : Lib.decDigits v = [c8 v] := by
  rw [Lib.decDigits, dif_pos h]; unfold c8; rw [Nat.mod_eq_of_lt h]
theorem dec_five {v : Nat} (h : 100000 ≤ v) : Lib.decDigits v = Lib.decDigits (v / 100000) ++ five v := by
  rw [dec_big (v := v) (by omega), dec_big (v := v / 10) (by omega), dec_big (v := v / 10 / 10) (by omega), dec_big (v := v / 10 / 10 / 10) (by omega), dec_big (v := v / 10 / 10 / 10 / 10) (by omega)]
  rw [show v / 10 / 10 = v / 100 by omega, show v / 100 / 10 = v / 1000 by omega, show v / 1000 / 10 = v / 10000 by omega, show v / 10000 / 10 = v / 100000 by omega]
  simp [five]
theorem c8_mod (v k : Nat) (h : k = 1 ∨ k = 10 ∨ k = 100 ∨ k = 1000 ∨ k = 10000) : c8 (v % 100000 / k) = c8 (v / k) := by
  unfold c8; congr 2
  rcases h with rfl | rfl | rfl | rfl | rfl <;> omega
theorem pad_five (v : Nat) : Lib.repeatL [48] (5 - (Lib.decDigits (v % 100000)).length) ++ Lib.decDigits (v % 100000) = five v := by
  have e : five v = [c8 (v % 100000 / 10000), c8 (v % 100000 / 1000), c8 (v % 100000 / 100), c8 (v % 100000 / 10), c8 (v % 100000)] := by
    have := c8_mod v 1 (by simp)
    rw [c8_mod v 10000 (by simp), c8_mod v 1000 (by simp), c8_mod v 100 (by simp), c8_mod v 10 (by simp), show c8 (v % 100000) = c8 v by simpa using this]; rfl
  rw [e]
  have hr : v % 100000 < 100000 := Nat.mod_lt _ (by decide)
  generalize v % 100000 = r at *
  have z : c8 0 = 48 := rfl
  by_cases h1 : r < 10
  · rw [dec_small h1, show r / 10 = 0 by omega, show r / 100 = 0 by omega, show r / 1000 = 0 by omega, show r / 10000 = 0 by omega, z]; rfl
  by_cases h2 : r < 100
  · rw [dec_big (by omega), dec_small (v := r / 10) (by omega), show r / 100 = 0 by omega, show r / 1000 = 0 by omega, show r / 10000 = 0 by omega, z]; rfl
  by_cases h3 : r < 1000
  · rw [dec_big (by omega), dec_big (v := r / 10) (by omega), dec_small (v := r / 10 / 10) (by omega), show r / 10 / 10 = r / 100 by omega, show r / 1000 = 0 by omega, show r / 10000 = 0 by omega, z]; rfl
  by_cases h4 : r < 10000
  · rw [dec_big (by omega), dec_big (v := r / 10) (by omega), dec_big (v := r / 10 / 10) (by omega), dec_small (v := r / 10 / 10 / 10) (by omega), show r / 10 / 10 = r / 100 by omega, show r / 100 / 10 = r / 1000 by omega, show r / 10000 = 0 by omega, z]; rfl
  · rw [dec_big (by omega), dec_big (v := r / 10) (by omega), dec_big (v := r / 10 / 10) (by omega), dec_big (v := r / 10 / 10 / 10) (by omega), dec_small (v := r / 10 / 10 / 10 / 10) (by omega), show r / 10 / 10 = r / 100 by omega, show r / 100 / 10 = r / 1000 by omega, show r / 1000 / 10 = r / 10000 by omega]; rfl
def chunks (v : Nat) : List Bs := if v = 0 then [] else (if v / 100000 = 0 then Lib.decDigits v else five v) :: chunks (v / 100000)
  termination_by v
  decreasing_by omega
theorem chunks_zero : chunks 0 = [] := by rw [chunks]; simp
theorem chunks_pos {v : Nat} (h : v ≠ 0) : chunks v = (if v / 100000 = 0 then Lib.decDigits v else five v) :: chunks (v / 100000) := by rw [chunks]; simp [h]
theorem chunks_flat (v : Nat) (h : v ≠ 0) : (chunks v).reverse.flatten = Lib.decDigits v := by
  induction v using Nat.strongRecOn with
  | ind v ih =>
    rw [chunks_pos h]
    by_cases h1 : v / 100000 = 0
    · rw [h1, chunks_zero]; simp
    · rw [if_neg h1, List.reverse_cons, List.flatten_append, ih (v / 100000) (by omega) h1, dec_five (v := v) (by omega)]; simp
theorem chunks_len : ∀ (c v : Nat), v < 65536 ^ c → (chunks v).length ≤ c := by
  intro c
  induction c with
  | zero => intro v h; have : v = 0 := by simp at h; omega
            rw [this, chunks_zero]; simp
  | succ c ih =>
    intro v h
    by_cases h0 : v = 0
    · rw [h0, chunks_zero]; simp
    · rw [chunks_pos h0, List.length_cons]
      have := ih (v / 100000) (by rw [Nat.pow_succ] at h; omega)
      omega
theorem dec_len : ∀ (c v : Nat), v < 8 ^ c → (Lib.decDigits v).length ≤ c + 1 := by
  intro c
  induction c with
  | zero => intro v h; rw [dec_small (by simp at h; omega)]; simp
  | succ c ih =>
    intro v h
    by_cases h0 : v < 10
    · rw [dec_small h0]; simp
    · rw [dec_big (by omega), List.length_append, List.length_singleton]
      have := ih (v / 10) (by rw [Nat.pow_succ] at h; omega)
      omega
theorem dec_len5 {r : Nat} (h : r < 100000) : (Lib.decDigits r).length ≤ 5 := by
  have h1 := congrArg List.length (pad_five r)
  rw [Nat.mod_eq_of_lt h, List.length_append, Lib.repeatL_length] at h1
  simp only [five, List.length_cons, List.length_nil] at h1
  omega
def txt (x : Int) : Bs := if x < 0 then 45 :: Lib.decDigits x.natAbs else Lib.decDigits x.natAbs
theorem join_nilsep : ∀ l : List Bs, Lib.join l [] = l.flatten
  | [] => rfl
  | x :: l => by
    rw [Lib.join_cons]
    unfold Lib.joinTail
    rw [List.flatten_cons, show (fun y : Bs => ([] : Bs) ++ y) = id from rfl, List.map_id]
theorem natAbs_lt {x : Int} {k : Nat} (h : Sm k x) : x.natAbs < 2 ^ (20 * k) := by
  unfold Sm at h
  rw [pw_two] at h
  have : ((x.natAbs : Nat) : Int) < ((2 ^ (20 * k) : Nat) : Int) := by simpa using h
  exact Int.ofNat_lt.1 this
theorem txt_len {x : Int} {k : Nat} (h : Sm k x) : (txt x).length ≤ 7 * k + 2 := by
  have h1 := natAbs_lt h
  have h2 := dec_len (7 * k) x.natAbs (Nat.lt_of_lt_of_le h1 (by rw [show (8 : Nat) = 2 ^ 3 from rfl, ← Nat.pow_mul]; exact Nat.pow_le_pow_right (by decide) (by omega)))
  unfold txt; split <;> simp <;> omega
def isd (b : UInt8) : Bool := decide (48 ≤ b.toNat) && decide (b.toNat ≤ 57)
def tens : Bs := [48, 49, 50, 51, 52, 53, 54, 55, 56, 57]
theorem tens_isd (b : UInt8) : tens.contains b = isd b := by
  have h : ∀ n, n < 256 → tens.contains (UInt8.ofNat n) = isd (UInt8.ofNat n) := by decide +kernel
  have := h b.toNat (UInt8.toNat_lt b)
  rwa [UInt8.ofNat_toNat] at this
def ten1 (v : Nat) (b : UInt8) : Nat := 10 * v + (b.toNat - 48)
def dv (v : Nat) (l : Bs) : Nat := l.foldl ten1 v
theorem dv_nil (v : Nat) : dv v [] = v := rfl
theorem dv_cons (v : Nat) (b : UInt8) (l : Bs) : dv v (b :: l) = dv (ten1 v b) l := by unfold dv; rw [List.foldl_cons]
theorem dv_append (l m : Bs) (v : Nat) : dv v (l ++ m) = dv (dv v l) m := by unfold dv; rw [List.foldl_append]
theorem dv_le (l : Bs) : ∀ (v : Nat), v ≤ dv v l := by
  induction l with
  | nil => intro v; rw [dv_nil]; exact Nat.le_refl v
  | cons b l ih => intro v; rw [dv_cons]; have := ih (ten1 v b); unfold ten1 at *; omega
theorem dv_lt (l : Bs) : ∀ (v : Nat), l.all isd = true → dv v l < (v + 1) * 16 ^ l.length := by
  induction l with
  | nil => intro v _; rw [dv_nil, List.length_nil, Nat.pow_zero]; omega
  | cons b l ih =>
    intro v h
    simp only [List.all_cons, Bool.and_eq_true] at h
    have h1 := ih (ten1 v b) h.2
    have h2 : b.toNat ≤ 57 := by have := h.1; simp only [isd, Bool.and_eq_true, decide_eq_true_eq] at this; exact this.2
    have h3 : (ten1 v b + 1) * 16 ^ l.length ≤ ((v + 1) * 16) * 16 ^ l.length := Nat.mul_le_mul_right _ (by unfold ten1; omega)
    rw [dv_cons, List.length_cons, Nat.pow_succ, Nat.mul_comm (16 ^ l.length) 16, ← Nat.mul_assoc]
    exact Nat.lt_of_lt_of_le h1 h3
theorem isd_range {b : UInt8} (h : isd b = true) : 48 ≤ b.toNat ∧ b.toNat ≤ 57 := by simpa [isd] using h
def cut (s : Bs) : Bs × Bool := match s with
  | 45 :: t => (t, true)
  | s => (s, false)
def good (t : Bs) : Bool := !(t == []) && !(t.head?.getD 0 == 48) && t.all isd
theorem two_cast (k : Nat) : ((2 ^ k : Nat) : Int) = 2 ^ k := by simp
theorem dv_key {t : Bs} (h : t.all isd = true) (K : Nat) (hK : 4 * t.length ≤ K) : ((dv 0 t : Nat) : Int) < 2 ^ K := by
  have h1 := dv_lt t 0 h
  rw [show (0 + 1) * 16 ^ t.length = 16 ^ t.length by omega] at h1
  have h2 : 16 ^ t.length ≤ 2 ^ K := by
    rw [show (16 : Nat) = 2 ^ 4 from rfl, ← Nat.pow_mul]; exact Nat.pow_le_pow_right (by decide) hK
  have h4 := Int.ofNat_lt.2 (Nat.lt_of_lt_of_le h1 h2)
  rwa [two_cast] at h4
theorem sm_key {v k : Nat} (h : ∀ K, K = 20 * k → (v : Int) < 2 ^ K) : Sm k (v : Int) := by
  unfold Sm; rw [pw_two, Int.natAbs_natCast]; exact h _ rfl
theorem dv_sm {t : Bs} (h : t.all isd = true) (hl : t.length ≤ 500) : Sm 100 ((dv 0 t : Nat) : Int) := sm_key fun K hK => dv_key h K (by omega)
theorem cut_len (s : Bs) : (cut s).1.length ≤ s.length := by unfold cut; split <;> simp
theorem cut_ne {b : UInt8} {l : Bs} (h : b ≠ 45) : cut (b :: l) = (b :: l, false) := by
  unfold cut; split
  · rename_i e; exact absurd (List.cons.inj e).1 h
  · rfl
def readB (s : Bs) : Big × Int :=
  if s = [48] then (⟨0, []⟩, 0)
  else if good (cut s).1 = true then (toB (if (cut s).2 then -((dv 0 (cut s).1 : Nat) : Int) else ((dv 0 (cut s).1 : Nat) : Int)), 0)
  else (⟨0, []⟩, 2)
def textF (f : Frac) : Bs := if rightf f = true then txt (ofB f.P) ++ 47 :: txt (ofB f.Q) else []
theorem textF_toF (r : Rat) : textF (toF r) = txt r.num ++ 47 :: txt (r.den : Int) := by
  unfold textF
  rw [if_pos (rightf_toF r)]
  show txt (ofB (toB r.num)) ++ 47 :: txt (ofB (toB (r.den : Int))) = _
  rw [ofB_toB, ofB_toB]
def cutS : Bs → Bs × Bs × Bool
  | [] => ([], [], false)
  | b :: l => if b = 47 then ([], l, true) else (b :: (cutS l).1, (cutS l).2.1, (cutS l).2.2)
theorem cutS_spec : ∀ s : Bs, ((cutS s).2.2 = true ∧ Lib.indexByte s 47 = ((cutS s).1.length : Int) ∧ s = (cutS s).1 ++ 47 :: (cutS s).2.1) ∨ ((cutS s).2.2 = false ∧ Lib.indexByte s 47 = -1 ∧ (cutS s).1 = s ∧ (cutS s).2.1 = [])
  | [] => .inr ⟨rfl, rfl, rfl, rfl⟩
  | b :: l => by
    by_cases hb : b = 47
    · subst hb
      exact .inl ⟨rfl, rfl, rfl⟩
    · have e : cutS (b :: l) = (b :: (cutS l).1, (cutS l).2.1, (cutS l).2.2) := by unfold cutS; rw [if_neg hb]; cases l <;> rfl
      have e2 : Lib.indexByte (b :: l) 47 = if Lib.indexByte l 47 == -1 then -1 else Lib.indexByte l 47 + 1 := by
        have e3 : Lib.indexByte (b :: l) 47 = if (b == 47) = true then 0 else if Lib.indexByte l 47 == -1 then -1 else Lib.indexByte l 47 + 1 := rfl
        rw [e3, if_neg (by simpa using hb)]
      rw [e, e2]
      rcases cutS_spec l with ⟨h1, h2, h3⟩ | ⟨h1, h2, h3, h4⟩
      · refine .inl ⟨h1, ?_, ?_⟩
        · rw [h2, if_neg (by simp)]; rfl
        · show b :: l = b :: ((cutS l).1 ++ 47 :: (cutS l).2.1)
          rw [← h3]
      · refine .inr ⟨h1, ?_, ?_, h4⟩
        · rw [h2]; rfl
        · show b :: (cutS l).1 = b :: l
          rw [h3]
theorem ssl_cut1 (u v : Bs) : ssl (u ++ 47 :: v) 0 (u.length : Int) = some u := by
  unfold ssl
  rw [if_pos ⟨by omega, by omega, by simp; omega⟩]
  simp
theorem ssl_cut2 (u v : Bs) (h : u.length < 1099511627776) : ssl (u ++ 47 :: v) (iadd .i64 (u.length : Int) 1) (u ++ 47 :: v).length = some v := by
  rw [iadd_i64 (by omega) (by omega)]
  unfold ssl
  rw [if_pos ⟨by omega, by simp; omega, by omega⟩, show ((u.length : Int) + 1).toNat = u.length + 1 by omega, Int.toNat_natCast, List.take_length]
  simp
theorem cutS_len (s : Bs) : (cutS s).1.length ≤ s.length ∧ (cutS s).2.1.length ≤ s.length := by
  rcases cutS_spec s with ⟨h1, h2, h3⟩ | ⟨h1, h2, h3, h4⟩
  · have := congrArg List.length h3
    simp only [List.length_append, List.length_cons] at this
    omega
  · rw [h3, h4]; simp
def readF (s : Bs) : Frac × Int :=
  if (readB (cutS s).1).2 = 0 ∧ (readB (cutS s).2.1).2 = 0 ∧ rightf ⟨(readB (cutS s).1).1, (readB (cutS s).2.1).1⟩ = true ∧ textF ⟨(readB (cutS s).1).1, (readB (cutS s).2.1).1⟩ = s then (⟨(readB (cutS s).1).1, (readB (cutS s).2.1).1⟩, 0) else (zeroF, 2)
theorem rat_of {f : Frac} {k : Nat} (h : f.P.Digits.length ≤ k ∧ f.Q.Digits.length ≤ k) (hr : rightf f = true) : ∃ r, f = toF r ∧ SmF k r := by
  obtain ⟨r, rfl⟩ := toF_of_rightf hr
  exact ⟨r, rfl, sm_of_len h.1, sm_of_len h.2⟩
end Go.Proofs.YteekaonhdckicaaGreatDoor.Dp

namespace Go.Proofs.YteekaonhdckicaaGreatDoor.Dp
open Go Go.Proofs.YteekaonhdckicaaGreatDoor.Rt Go.Proofs.YteekaonhdckicaaGreatDoor.D Go.Proofs.YteekaonhdckicaaGreatDoor.M
set_option linter.unusedVariables false
theorem asc (n : Nat) (b : UInt8) : asciiSet_contains n tens (b.toNat : Int) = some (isd b) := by
  unfold asciiSet_contains
  have := UInt8.toNat_lt b
  rw [if_pos ⟨by omega, by omega⟩, Int.toNat_natCast, UInt8.ofNat_toNat, tens_isd]
theorem trimR_L (n : Nat) (kont : Bs → Option Bs) : ∀ (k : Nat) (s : Bs) (m : Nat), s.length ≤ k → k < m → s.length < 1099511627776 →
    ∃ s', MT.strings_trimRightASCII_L1 n tens kont m s = kont s' ∧ s'.all isd = s.all isd ∧ (s.all isd = true → s' = []) ∧ s'.length ≤ s.length := by
  intro k
  induction k with
  | zero =>
    intro s m h1 h2 h3
    obtain ⟨m, rfl⟩ : ∃ m', m = m' + 1 := ⟨m - 1, by omega⟩
    obtain rfl : s = [] := List.length_eq_zero_iff.1 (by omega)
    exact ⟨[], rfl, rfl, fun _ => rfl, by omega⟩
  | succ k ih =>
    intro s m h1 h2 h3
    obtain ⟨m, rfl⟩ : ∃ m', m = m' + 1 := ⟨m - 1, by omega⟩
    rcases List.eq_nil_or_concat s with rfl | ⟨p, b, rfl⟩
    · exact ⟨[], rfl, rfl, fun _ => rfl, by omega⟩
    rw [List.concat_eq_append] at *
    simp only [List.length_append, List.length_singleton] at h1 h3
    unfold MT.strings_trimRightASCII_L1
    rw [show decide (0 < ((p ++ [b]).length : Int)) = true by simp <;> omega, cond_true, isub_i64 (by simp <;> omega) (by simp <;> omega), show ((p ++ [b]).length : Int) - 1 = (p.length : Int) by simp]
    have e1 : sidx (p ++ [b]) (p.length : Int) = some (b.toNat : Int) := by unfold sidx; rw [if_pos (by omega)]; simp
    rw [e1, Option.bind_some, asc, Option.bind_some]
    cases hb : isd b with
    | false => exact ⟨p ++ [b], rfl, rfl, fun h => by simp [hb] at h, by omega⟩
    | true =>
      have e2 : ssl (p ++ [b]) 0 (p.length : Int) = some p := by unfold ssl; rw [if_pos ⟨by omega, by omega, by simp <;> omega⟩]; simp
      rw [show (bif !true then kont (p ++ [b]) else (ssl (p ++ [b]) 0 (p.length : Int)).bind fun t1 => MT.strings_trimRightASCII_L1 n tens kont m t1) = MT.strings_trimRightASCII_L1 n tens kont m p by rw [e2]; rfl]
      obtain ⟨s', h4, h5, h6, h7⟩ := ih p m (by omega) (by omega) (by omega)
      have e3 : (p ++ [b]).all isd = p.all isd := by rw [List.all_append]; simp [hb]
      exact ⟨s', h4, by rw [e3, h5], by rw [e3]; exact h6, by simp; omega⟩
theorem trimL_L (n : Nat) (kont : Bs → Option Bs) : ∀ (s : Bs) (m : Nat), s.length < m →
    ∃ s', MT.strings_trimLeftASCII_L1 n tens kont m s = kont s' ∧ (s' == []) = s.all isd
  | [], m + 1, _ => ⟨[], rfl, rfl⟩
  | b :: s, m + 1, h => by
    unfold MT.strings_trimLeftASCII_L1
    rw [show decide (0 < ((b :: s).length : Int)) = true by simp <;> omega, cond_true]
    have e1 : sidx (b :: s) 0 = some (b.toNat : Int) := by unfold sidx; rw [if_pos (by omega)]; simp
    rw [e1, Option.bind_some, asc, Option.bind_some]
    cases hb : isd b with
    | false => exact ⟨b :: s, rfl, by simp [hb]⟩
    | true =>
      have e2 : ssl (b :: s) 1 ((b :: s).length : Int) = some s := by unfold ssl; rw [if_pos ⟨by omega, by simp; omega, by omega⟩]; simp
      rw [show (bif !true then kont (b :: s) else (ssl (b :: s) 1 ((b :: s).length : Int)).bind fun t1 => MT.strings_trimLeftASCII_L1 n tens kont m t1) = MT.strings_trimLeftASCII_L1 n tens kont m s by rw [e2]; rfl]
      obtain ⟨s', h4, h5⟩ := trimL_L n kont s m (by simp at h; omega)
      exact ⟨s', h4, by rw [h5]; simp [hb]⟩
theorem Trim_n {t : Bs} (ht : t ≠ []) (hl : t.length < 1099511627776) {n : Nat} (hn : t.length < n) : ∃ r, strings_Trim n t tens = some r ∧ (r == []) = t.all isd := by
  obtain ⟨s1, h1, h2, h3, h4⟩ := trimR_L n (fun s3 => some s3) t.length t n (by omega) hn hl
  obtain ⟨s2, h5, h6⟩ := trimL_L n (fun s3 => some s3) s1 n (by omega)
  refine ⟨s2, ?_, by rw [h6, h2]⟩
  unfold strings_Trim
  have e0 : (decide (2 ≤ tens.length) && (decide (tens.length < 4294967281) && tens.all fun b => decide (b.toNat < 128))) = true := by decide +kernel
  have e3 : (t == []) = false := by cases t with
    | nil => exact absurd rfl ht
    | cons b t => rfl
  have e1 : MT.strings_trimRightASCII n t tens = some s1 := by unfold MT.strings_trimRightASCII; exact h1
  have e2 : MT.strings_trimLeftASCII n s1 tens = some s2 := by unfold MT.strings_trimLeftASCII; exact h5
  rw [e3, e0, e1]
  show (MT.strings_trimLeftASCII n s1 tens).bind _ = _
  rw [e2]; rfl
theorem trim_x {t : Bs} (ht : t ≠ []) (hl : t.length < 1099511627776) : ∃ r, EvF tt 145 [S t, S tens] (S r) ∧ (r == []) = t.all isd := by
  obtain ⟨r, h1, h2⟩ := Trim_n (n := t.length + 2) ht hl (by omega)
  exact ⟨r, EvF.ext (g := xTrim) rfl rfl (by simp only [xTrim, h1]), h2⟩
end Go.Proofs.YteekaonhdckicaaGreatDoor.Dp

namespace Go.Proofs.YteekaonhdckicaaGreatDoor.Dp
open Go Go.RowKit Go.Proofs.YteekaonhdckicaaGreatDoor.Rt Go.Proofs Go.Proofs.YteekaonhdckicaaGreatDoor.D
set_option linter.unusedVariables false
set_option maxHeartbeats 4000000
set_option maxRecDepth 100000
abbrev ss (l : List Bs) : List VT := l.map VT.str
theorem ixN_at {α : Type} {l : List α} {z : Int} {v : α} (n : Nat) (hz : z = n) (h : l[n]? = some v) : ix l z = some v := by
  subst hz; rw [ix_nat]; exact h
theorem rev_e {l : List Bs} (hl : l.length < 1099511627776) : EvH tt 136 [.row 0 0] [bk (.row 9 1 (ss l))] (.tup []) [⟨0, 0, false, true, false, .row 9 1 (ss l.reverse)⟩] := by
  refine evF (eInH 1 Tryz.func136 rfl rfl rfl ?_)
  have hlm : (ss l).length = l.length := List.length_map ..
  refine qL (σ := Int × Int × List VT) (fun s => [(3, I s.2.1), (2, I s.1)]) (fun s => [(0, .row 9 1 s.2.2)]) (fun s => ∃ P M S : List Bs, s.2.2 = ss (P ++ (M ++ S)) ∧ s.1 = P.length ∧ s.2.1 = (P.length : Int) + M.length - 1 ∧ l.reverse = P ++ (M.reverse ++ S) ∧ l.length = P.length + M.length + S.length) (fun s => (s.2.1 - s.1 + 1).toNat) (0, isub .i64 (ss l).length 1, ss l) rfl rfl ⟨[], l, [], by simp, rfl, by show isub .i64 (ss l).length 1 = _; rw [hlm, isub_i64 (by omega) (by omega)]; simp, by simp, by simp⟩ ?_
  rintro ⟨i, j, ys⟩ ⟨P, M, R, hy, hi, hj, hr, hlen⟩ ih
  obtain rfl : ys = ss (P ++ (M ++ R)) := hy
  obtain rfl : i = P.length := hi
  have hj : j = (P.length : Int) + M.length - 1 := hj
  refine qC rfl (fun h => ?_) (fun h => ?_)
  · have h : (P.length : Int) < j := h
    obtain ⟨a, M', b, rfl⟩ : ∃ a M' b, M = a :: (M' ++ [b]) := by
      rcases M with _ | ⟨a, M⟩
      · simp at hj; omega
      · rcases List.eq_nil_or_concat M with rfl | ⟨M', b, rfl⟩
        · simp at hj; omega
        · exact ⟨a, M', b, by simp⟩
    simp only [List.length_cons, List.length_append, List.length_nil] at hj hlen
    refine qV rfl (ixN_at (P.length + M'.length + 1) (v := VT.str b) (by show j = _; omega) ?_) ?_
    · show (ss (P ++ (a :: (M' ++ [b]) ++ R)))[P.length + M'.length + 1]? = some (.str b)
      rw [List.getElem?_map, List.getElem?_append_right (by omega)]
      simp [show P.length + M'.length + 1 - P.length = M'.length + 1 by omega]
    refine qV rfl (ixN_at P.length (v := VT.str a) rfl ?_) ?_
    · show (ss (P ++ (a :: (M' ++ [b]) ++ R)))[P.length]? = some (.str a)
      simp
    refine qV rfl (ixN_at P.length (v := VT.str a) rfl ?_) ?_
    · show (ss (P ++ (a :: (M' ++ [b]) ++ R)))[P.length]? = some (.str a)
      simp
    have hset : ((ss (P ++ (a :: (M' ++ [b]) ++ R))).set P.length (.str b)).set (P.length + M'.length + 1) (.str a) = ss ((P ++ [b]) ++ (M' ++ (a :: R))) := by
      rw [← List.map_set, ← List.map_set]
      congr 1
      rw [List.set_append_right _ _ (Nat.le_refl _), Nat.sub_self, List.set_append_right _ _ (by omega), show P.length + M'.length + 1 - P.length = M'.length + 1 by omega]
      simp [List.set_append_right]
    refine qV rfl (ixN_at (P.length + M'.length + 1) (v := VT.str b) (by show j = _; omega) ?_) ?_
    · show ((ss (P ++ (a :: (M' ++ [b]) ++ R))).set P.length (.str b))[P.length + M'.length + 1]? = some (.str b)
      rw [List.getElem?_set_ne (by omega), List.getElem?_map, List.getElem?_append_right (by omega)]
      simp [show P.length + M'.length + 1 - P.length = M'.length + 1 by omega]
    refine qE rfl (by kernel_rfl) (by kernel_rfl) ?_
    refine qB (ih (iadd .i64 P.length 1, isub .i64 j 1, ((ss (P ++ (a :: (M' ++ [b]) ++ R))).set (P.length : Int).toNat (.str b)).set j.toNat (.str a)) ?_ ?_) (by kernel_rfl)
    · refine ⟨P ++ [b], M', a :: R, ?_, ?_, ?_, ?_, ?_⟩
      · show ((ss (P ++ (a :: (M' ++ [b]) ++ R))).set (P.length : Int).toNat (.str b)).set j.toNat (.str a) = _
        rw [show j.toNat = P.length + M'.length + 1 by omega]
        exact hset
      · show iadd .i64 P.length 1 = _
        rw [iadd_i64 (by omega) (by omega)]; simp
      · show isub .i64 j 1 = _
        rw [isub_i64 (by omega) (by omega)]; simp; omega
      · rw [hr]; simp
      · simp; omega
    · show (isub .i64 j 1 - iadd .i64 P.length 1 + 1).toNat < (j - P.length + 1).toNat
      rw [isub_i64 (by omega) (by omega), iadd_i64 (by omega) (by omega)]; omega
  · have h : ¬ (P.length : Int) < j := h
    refine qR rfl ⟨rfl, ?_⟩
    have hM : M.reverse = M := by
      rcases M with _ | ⟨a, _ | ⟨b, M⟩⟩
      · rfl
      · rfl
      · simp at hj; omega
    rw [hM] at hr
    rw [hr]; rfl
theorem itoa_e {n : Int} (h0 : -9223372036854775808 ≤ n) (h1 : n ≤ 9223372036854775807) : EvF tt 134 [I n] (S (Lib.itoa n)) := EvF.ext (g := xItoa) rfl rfl (by simp [xItoa, okB, h0, h1])
theorem repeat_e {l : Bs} {n : Int} (h0 : 0 ≤ n) (h1 : n ≤ 9223372036854775807) (h2 : l.length * n.toNat ≤ 140737488355328) : EvF tt 135 [S l, I n] (S (Lib.repeatL l n.toNat)) := EvF.ext (g := xRepeat) rfl rfl (by simp [xRepeat, okB, h0, h1, h2])
theorem strs_ss (l : List Bs) : strs (ss l) = some l := by
  induction l with
  | nil => rfl
  | cons x l ih => simp only [ss, List.map_cons, strs] at ih ⊢; rw [ih]
theorem join_e {l : List Bs} {sep : Bs} (h1 : l.length ≤ 140737488355328) (h2 : (Lib.join l sep).length ≤ 140737488355328) : EvF tt 137 [L (ss l), S sep] (S (Lib.join l sep)) := EvF.ext (g := xJoin) rfl rfl (by simp only [xJoin, strs_ss]; simp [okB, h1, h2])
theorem itoa_nat (n : Nat) : Lib.itoa (n : Int) = Lib.decDigits n := by unfold Lib.itoa; rw [if_neg (by omega)]; rfl
theorem qS {P : Program} {T : Ty P} {fr : Fr} {s : St} {Q : DV → DH → Prop} {cm : Bool} {a b : Bs} {k : Bs → St} (h : rnA T fr 2000 s = .ask cm Bs (scat a b) k) (hl : a.length + b.length ≤ 140737488355328) (hk : Tt T fr (k (a ++ b)) Q) : Tt T fr s Q := tV h _ (by unfold scat; rw [if_pos (by omega)]) hk
theorem text_e {x : Int} {k : Nat} (hS : Sm k x) (hk : k < 1000000) : EvF tt 76 [.v (eB (toB x))] (S (txt x)) := by
  have hl : (dig x.natAbs).length ≤ k := len_of_sm hS
  have hch : (chunks x.natAbs).length < 10000000 := by
    have h1 := chunks_len (2 * k) x.natAbs (Nat.lt_of_lt_of_le (natAbs_lt hS) (by rw [show (65536 : Nat) = 2 ^ 16 from rfl, ← Nat.pow_mul]; exact Nat.pow_le_pow_right (by decide) (by omega)))
    omega
  refine evF (eIn Tryz.func76 rfl rfl ?_)
  refine qK rfl (right_e (toB x) (by show (dig x.natAbs).length < _; omega)) rfl ?_
  refine qN rfl (by rw [rightb_toB]; rfl) ?_
  refine qL (σ := Nat × List VT) (fun s => [(4, L (ns (dig s.1)))]) (fun s => [(0, .row 9 1 s.2)]) (fun s => (dig s.1).length < 16777216 ∧ ∃ acc, s.2 = ss acc ∧ acc ++ chunks s.1 = chunks x.natAbs) (fun s => s.1) (x.natAbs, []) rfl rfl ⟨by dsimp only; omega, [], rfl, rfl⟩ ?_
  rintro ⟨v, xs⟩ ⟨hlv, acc, hx, hc⟩ ih
  obtain rfl : xs = ss acc := hx
  have hc : acc ++ chunks v = chunks x.natAbs := hc
  have hlv : (dig v).length < 16777216 := hlv
  refine qC rfl (fun h => ?_) (fun h => ?_)
  · have h : 0 < ((ns (dig v)).length : Int) := h
    have hv : v ≠ 0 := by intro e; subst e; rw [dig_zero] at h; simp at h
    have hs := short_e (d := 100000) (InR_dig v) (by omega) (by decide) (by decide)
    rw [val_dig, show ((v : Int) / 100000).toNat = v / 100000 by omega, show (v : Int) % 100000 = ((v % 100000 : Nat) : Int) by omega] at hs
    refine qK rfl hs rfl ?_
    have hi : EvF tt 134 [I ((v % 100000 : Nat) : Int)] (S (Lib.decDigits (v % 100000))) := by rw [← itoa_nat]; exact itoa_e (by omega) (by omega)
    refine qK rfl hi rfl ?_
    have hd5 := dec_len5 (Nat.mod_lt v (show 0 < 100000 by decide))
    have hca : acc.length + (chunks v).length < 10000000 := by rw [← List.length_append, hc]; exact hch
    have hlq : (dig (v / 100000)).length ≤ (dig v).length := len_mono (Nat.div_le_self ..)
    rw [chunks_pos hv] at hc hca
    simp only [List.length_cons] at hca
    refine qC rfl (fun h' => ?_) (fun h' => ?_)
    · have hv' : v / 100000 ≠ 0 := by
        intro e
        have h' : 0 < ((ns (dig (v / 100000))).length : Int) := h'
        rw [e, dig_zero] at h'; simp at h'
      rw [if_neg hv'] at hc
      have hr : EvF tt 135 [S [48], I (isub .i64 5 (Lib.decDigits (v % 100000)).length)] (S (Lib.repeatL [48] (5 - (Lib.decDigits (v % 100000)).length))) := by
        rw [isub_i64 (by omega) (by omega), show 5 - (Lib.decDigits (v % 100000)).length = ((5 : Int) - (Lib.decDigits (v % 100000)).length).toNat by omega]
        exact repeat_e (by omega) (by omega) (by simp; omega)
      refine qK rfl hr rfl ?_
      refine qS rfl (by rw [Lib.repeatL_length]; simp; omega) ?_
      refine qA 16 rfl rfl (by simp; omega) ?_
      refine qB (ih (v / 100000, ss acc ++ [.str (Lib.repeatL [48] (5 - (Lib.decDigits (v % 100000)).length) ++ Lib.decDigits (v % 100000))]) ?_ ?_) (by kernel_rfl)
      · refine ⟨by show (dig (v / 100000)).length < _; omega, acc ++ [five v], by rw [pad_five]; simp, by rw [← hc]; simp⟩
      · show v / 100000 < v; omega
    · have hv' : v / 100000 = 0 := by
        have h' : ¬ 0 < ((ns (dig (v / 100000))).length : Int) := h'
        rw [List.length_map] at h'
        exact dig_eq_nil.1 (List.length_eq_zero_iff.1 (by omega))
      rw [if_pos hv'] at hc
      refine qA 16 rfl rfl (by simp; omega) ?_
      refine qB (ih (v / 100000, ss acc ++ [.str (Lib.decDigits (v % 100000))]) ?_ ?_) (by kernel_rfl)
      · refine ⟨by show (dig (v / 100000)).length < _; omega, acc ++ [Lib.decDigits v], ?_, by rw [← hc]; simp⟩
        rw [Nat.mod_eq_of_lt (by omega)]; simp
      · show v / 100000 < v; omega
  · have h : ¬ 0 < ((ns (dig v)).length : Int) := h
    refine qK rfl (rev_e (l := acc) (by have h9 : acc.length ≤ (acc ++ chunks v).length := (by simp); rw [hc] at h9; omega)) rfl ?_
    have hv : v = 0 := by
      have : (dig v).length = 0 := by rw [List.length_map] at h; omega
      exact dig_eq_nil.1 (List.length_eq_zero_iff.1 this)
    subst hv
    rw [chunks_zero, List.append_nil] at hc
    subst hc
    have hj : Lib.join (chunks x.natAbs).reverse [] = (chunks x.natAbs).reverse.flatten := join_nilsep _
    have htl := txt_len hS
    have hjl : ((chunks x.natAbs).reverse.flatten).length ≤ 7 * k + 2 := by
      by_cases h0 : x.natAbs = 0
      · rw [h0, chunks_zero]; simp
      · rw [chunks_flat _ h0]
        unfold txt at htl
        split at htl
        · simp only [List.length_cons] at htl; omega
        · exact htl
    have hje := join_e (l := (chunks x.natAbs).reverse) (sep := []) (by simp; omega) (by rw [hj]; omega)
    rw [hj] at hje
    refine qK rfl hje rfl ?_
    have hsg : (toB x).Sign = sg x := rfl
    refine qC rfl (fun h1 => ?_) (fun h1 => ?_)
    · have h1 : sg x = 0 := h1
      refine qR rfl ⟨?_, rfl⟩
      obtain rfl : x = 0 := by have := sg_cases x; omega
      show S [48] = _
      unfold txt
      rw [if_neg (by decide), show (0 : Int).natAbs = 0 from rfl, dec_small (by decide)]
      rfl
    · have h1 : sg x ≠ 0 := h1
      have hc := sg_cases x
      refine qC rfl (fun h2 => ?_) (fun h2 => ?_)
      · have h2 : sg x = -1 := h2
        refine qS rfl (by show 1 + _ ≤ _; omega) ?_
        refine qR rfl ⟨?_, rfl⟩
        show S (45 :: _) = _
        unfold txt
        rw [chunks_flat _ (by omega), if_pos (by omega)]
        rfl
      · have h2 : sg x ≠ -1 := h2
        refine qR rfl ⟨?_, rfl⟩
        show S _ = _
        unfold txt
        rw [chunks_flat _ (by omega), if_neg (by omega)]
theorem ftext_e {r : Rat} {k : Nat} (h : SmF k r) (hk : k < 1000000) : EvF tt 33 [.v (eF (toF r))] (S (txt r.num ++ 47 :: txt (r.den : Int))) := by
  refine evF (eIn Tryz.func33 rfl rfl ?_)
  refine qK rfl (fright_e (f := toF r) (k := k) (len_of_sm h.1) (len_of_sm h.2) (by omega)) rfl ?_
  refine qN rfl (by rw [rightf_toF]; rfl) ?_
  have h1 := txt_len h.1
  have h2 := txt_len h.2
  refine qK rfl (text_e h.1 hk) rfl ?_
  refine qS rfl (by show _ + 1 ≤ _; omega) ?_
  refine qK rfl (text_e h.2 hk) rfl ?_
  refine qS rfl (by simp only [List.length_append]; show _ + 1 + _ ≤ _; omega) ?_
  refine qE rfl (by kernel_rfl) (by kernel_rfl) ?_
  refine qR rfl ⟨?_, rfl⟩
  show S ((txt r.num ++ [47]) ++ txt (r.den : Int)) = _
  simp
theorem ftext_not {f : Frac} {k : Nat} (hp : f.P.Digits.length ≤ k) (hq : f.Q.Digits.length ≤ k) (hk : k < 1000000) (hr : rightf f = false) : EvF tt 33 [.v (eF f)] (S []) := by
  refine evF (eIn Tryz.func33 rfl rfl ?_)
  refine qK rfl (fright_e hp hq (by omega)) rfl ?_
  refine qT rfl (by rw [hr]; rfl) ?_
  exact qR rfl ⟨rfl, rfl⟩
theorem cut_lib (s : Bs) : Lib.trimPrefix s [45] = (cut s).1 ∧ Lib.hasPrefix s [45] = (cut s).2 := by
  unfold Lib.trimPrefix Lib.hasPrefix
  rcases s with _ | ⟨b, l⟩
  · exact ⟨rfl, rfl⟩
  · by_cases hb : b = 45
    · subst hb; exact ⟨rfl, rfl⟩
    · rw [cut_ne hb]
      have : (([45] : Bs).isPrefixOf (b :: l)) = false := by simp [List.isPrefixOf, Ne.symm hb]
      rw [this]; exact ⟨rfl, rfl⟩
theorem cutPrefix_e (s p : Bs) : EvF tt 144 [S s, S p] (.tup [S (Lib.trimPrefix s p), B (Lib.hasPrefix s p)]) := EvF.ext (g := xCutPrefix) rfl rfl rfl
theorem toByt_ok {l : Bs} (h : l.length ≤ 140737488355328) : toByt l = some l := by
  unfold toByt
  rw [Nat.ble_eq_true_of_le h]
theorem step_add {v V : Nat} {b : UInt8} {l : List Int} {xs : List VT} (hb : 48 ≤ b.toNat ∧ b.toNat ≤ 57) (hV : V = v * 10) (hl : l.take (dig V).length = dig V) (hx : xs.take (dig (b.toNat - 48)).length = ns (dig (b.toNat - 48))) (hv : (dig (v * 10)).length < 1073741824) :
    EvF tt 146 [.v (.sl (List.take (dig V).length (List.drop 0 (ns l)))), .v (.sl (List.take (dig (b.toNat - 48)).length (List.drop 0 xs)))] (L (ns (dig (ten1 v b)))) := by
  rw [List.drop_zero, List.drop_zero, ← List.map_take, hl, hx]
  have h := add_e (InR_dig V) (InR_dig (b.toNat - 48)) (by rw [hV]; exact hv) (by
    have h1 : Sm 1 ((b.toNat - 48 : Nat) : Int) := by unfold Sm; rw [Int.natAbs_natCast, show pw 1 = 1048576 by decide]; omega
    have h2 := len_of_sm h1
    rw [Int.natAbs_natCast] at h2; omega)
  rw [val_dig, val_dig, show ((V : Int) + ((b.toNat - 48 : Nat) : Int)).toNat = ten1 v b by unfold ten1; omega] at h
  exact h
theorem read_e {s : Bs} (hl : s.length ≤ 500) : EvF tt 82 [S s] (.tup [.v (eB (readB s).1), I (readB s).2]) := by
  refine evF (eIn Tryz.func82 rfl rfl ?_)
  have h1 := cutPrefix_e s [45]
  rw [(cut_lib s).1, (cut_lib s).2] at h1
  have hcl := cut_len s
  unfold readB
  generalize (cut s).2 = neg at h1 ⊢
  generalize (cut s).1 = t at h1 hcl ⊢
  refine qK rfl h1 rfl ?_
  refine qC rfl (fun h => ?_) (fun h => ?_)
  · have h : s = [48] := h
    rw [if_pos h]
    exact qR rfl ⟨rfl, rfl⟩
  · have h : ¬ s = [48] := h
    rw [if_neg h]
    refine qC rfl (fun h => ?_) (fun h => ?_)
    · have h : t = [] := h
      subst h
      exact qR rfl ⟨rfl, rfl⟩
    · have h0 : ¬ t = [] := h
      obtain ⟨b, us, rfl⟩ := List.exists_cons_of_ne_nil h0
      refine qV rfl (show sidx (b :: us) 0 = some (b.toNat : Int) from rfl) ?_
      have hg : good (b :: us) = (!(b == 48) && (b :: us).all isd) := rfl
      refine qC rfl (fun h => ?_) (fun h => ?_)
      · have h : (b.toNat : Int) = 48 := h
        obtain rfl : b = 48 := UInt8.toNat_inj.1 (by have : (48 : UInt8).toNat = 48 := rfl; omega)
        rw [if_neg (by rw [hg]; simp)]
        exact qR rfl ⟨rfl, rfl⟩
      · have h : ¬ (b.toNat : Int) = 48 := h
        have hb : b ≠ 48 := by intro e; subst e; exact h rfl
        obtain ⟨r, h2, h3⟩ := trim_x h0 (by omega)
        refine qK rfl h2 rfl ?_
        refine qC rfl (fun h => ?_) (fun h => ?_)
        · have h : ¬ r = [] := h
          rw [if_neg (by rw [hg, ← h3]; simp [h])]
          exact qR rfl ⟨rfl, rfl⟩
        · have h : ¬ ¬ r = [] := h
          have h : r = [] := Classical.not_not.1 h
          have hall : (b :: us).all isd = true := by rw [← h3, h]; rfl
          rw [if_pos (by rw [hg, hall]; simp [hb])]
          refine qV rfl (toByt_ok (l := b :: us) (by omega)) ?_
          have hbr : 48 ≤ b.toNat ∧ b.toNat ≤ 57 := isd_range (by simp only [List.all_cons, Bool.and_eq_true] at hall; exact hall.1)
          refine qB ?_ rfl
          refine qI ?_
          refine qT rfl (by simp [vBytes]) ?_
          refine qX rfl (by simp [vBytes]) fun v hv => ?_
          obtain rfl : VT.int .u8 (b.toNat : Int) = v := Option.some.inj hv
          obtain ⟨l1, hl1, hm1⟩ := mul_e (a := []) (b := [10]) InR.nil (InR.cons (by decide) (by decide) InR.nil) (by decide) (by decide)
          refine qK rfl hm1 rfl ?_
          have hd : ∀ {b : UInt8}, 48 ≤ b.toNat ∧ b.toNat ≤ 57 → ∃ xs, xs = [VT.int .i64 (IntKind.i64.wrap (isub .u8 (b.toNat : Int) 48))] ∧ EvH tt 131 [.row 0 0] [bk (.row 3 1 xs)] (.win 0 0 0 (dig (b.toNat - 48)).length) [⟨0, 0, false, true, false, .row 3 1 xs⟩] ∧ xs.take (dig (b.toNat - 48)).length = ns (dig (b.toNat - 48)) := by
            intro b hbr
            have e2 : IntKind.i64.wrap (isub .u8 (b.toNat : Int) 48) = ((b.toNat - 48 : Nat) : Int) := by
              rw [show isub .u8 (b.toNat : Int) 48 = ((b.toNat - 48 : Nat) : Int) by unfold isub; rw [wrapu8]; omega, wrap_i64 (by omega) (by omega)]
            obtain ⟨k1, k2⟩ := trim_w (l := [((b.toNat - 48 : Nat) : Int)]) (xs := [VT.int .i64 (IntKind.i64.wrap (isub .u8 (b.toNat : Int) 48))]) (InR.cons (by omega) (by omega) InR.nil) (by simp) (by rw [e2]; rfl)
            rw [show (val [((b.toNat - 48 : Nat) : Int)]).toNat = b.toNat - 48 by simp [val]] at k1 k2
            exact ⟨_, rfl, k1, k2⟩
          obtain ⟨xs, hxs, ht1, ht2⟩ := hd hbr
          subst hxs
          refine qK rfl ht1 rfl ?_
          refine qK rfl (step_add (v := 0) (V := (val [] * val [10]).toNat) hbr (by simp [val]) hl1 ht2 (by rw [Nat.zero_mul, dig_zero]; decide)) rfl ?_
          have hlen : ∀ (u : Nat), u ≤ dv 0 (b :: us) → (dig u).length < 101 := fun u hu => by
            have h1 := dv_sm hall (by omega)
            have h2 := len_of_sm h1
            rw [Int.natAbs_natCast] at h2
            have := len_mono hu
            omega
          have hlv : (vBytes (b :: us)).length = us.length + 1 := by simp [vBytes]
          have hus : us.length + 1 ≤ 500 := by simp only [List.length_cons] at hcl; omega
          refine qL (σ := Int × List Int) (fun s => [(33, I s.1), (6, L (ns s.2))]) (fun _ => []) (fun s => ∃ k : Nat, s.1 = k ∧ k ≤ us.length + 1 ∧ s.2 = dig (dv 0 ((b :: us).take k))) (fun s => us.length + 1 - s.1.toNat) (1, dig (ten1 0 b)) rfl (by kernel_rfl) ⟨1, rfl, by omega, rfl⟩ ?_
          rintro ⟨i, ls⟩ ⟨k, hi, hk, hls⟩ ih
          obtain rfl : i = k := hi
          obtain rfl : ls = dig (dv 0 ((b :: us).take k)) := hls
          refine qC rfl (fun h => ?_) (fun h => ?_)
          · have h : (k : Int) < ((vBytes (b :: us)).length : Int) := h
            refine qXm (g := fun b : UInt8 => VT.int .u8 (b.toNat : Int)) (l := b :: us) rfl ⟨by show (0 : Int) ≤ k; omega, by show (k : Int) < _; simp only [List.length_cons]; omega⟩ fun c hc _ => ?_
            have hc : (b :: us)[k]? = some c := hc
            have hcd := isd_range (List.all_eq_true.1 hall c (List.mem_of_getElem? hc))
            have htk : (b :: us).take (k + 1) = (b :: us).take k ++ [c] := by rw [List.take_add_one, hc]; rfl
            have hdv : dv 0 ((b :: us).take (k + 1)) = ten1 (dv 0 ((b :: us).take k)) c := by rw [htk, dv_append]; rfl
            have hle : ten1 (dv 0 ((b :: us).take k)) c ≤ dv 0 (b :: us) := by
              rw [← hdv]
              conv => rhs; rw [← List.take_append_drop (k + 1) (b :: us), dv_append]
              exact dv_le _ _
            have hll := hlen _ hle
            have h10 := len_mono (show dv 0 ((b :: us).take k) * 10 ≤ ten1 (dv 0 ((b :: us).take k)) c by unfold ten1; omega)
            have h11 := len_mono (show dv 0 ((b :: us).take k) ≤ ten1 (dv 0 ((b :: us).take k)) c by unfold ten1; omega)
            obtain ⟨l2, hl2, hm2⟩ := mul_e (a := dig (dv 0 ((b :: us).take k))) (b := [10]) (InR_dig _) (InR.cons (by decide) (by decide) InR.nil) (by omega) (by decide)
            refine qK rfl hm2 rfl ?_
            obtain ⟨xs, hxs, ht3, ht4⟩ := hd hcd
            subst hxs
            refine qK rfl ht3 rfl ?_
            refine qK rfl (step_add (v := dv 0 ((b :: us).take k)) hcd (by rw [val_dig, show val [10] = 10 by decide]; omega) hl2 ht4 (by omega)) rfl ?_
            refine qB (ih (iadd .i64 k 1, dig (ten1 (dv 0 ((b :: us).take k)) c)) ?_ ?_) (by kernel_rfl)
            · exact ⟨k + 1, by show iadd .i64 k 1 = _; rw [iadd_i64 (by omega) (by omega)]; rfl, by omega, by rw [hdv]⟩
            · show us.length + 1 - (iadd .i64 k 1).toNat < us.length + 1 - (k : Int).toNat
              rw [iadd_i64 (by omega) (by omega)]; omega
          · have h : ¬ (k : Int) < ((vBytes (b :: us)).length : Int) := h
            obtain rfl : k = us.length + 1 := by omega
            have htk : (b :: us).take (us.length + 1) = b :: us := List.take_of_length_le (by simp)
            have hln := hlen _ (Nat.le_refl _)
            refine qC rfl (fun h => ?_) (fun h => ?_)
            · have h : neg = true := h
              have h5 := signed_e (-1) (dv 0 (b :: us)) (by omega)
              rw [signed_toB (-((dv 0 (b :: us) : Nat) : Int)) (by omega) (fun hv => by rw [sg_neg (by omega)])] at h5
              rw [← htk] at h5
              refine qK rfl h5 rfl (qR rfl ⟨?_, rfl⟩)
              rw [htk, if_pos h]; rfl
            · have h : ¬ neg = true := h
              have h5 := signed_e 1 (dv 0 (b :: us)) (by omega)
              rw [signed_toB ((dv 0 (b :: us) : Nat) : Int) (by omega) (fun hv => by rw [sg_pos (by omega)])] at h5
              rw [← htk] at h5
              refine qK rfl h5 rfl (qR rfl ⟨?_, rfl⟩)
              rw [htk, if_neg h]; rfl
theorem islite_e (l : Bs) (c : UInt8) : EvF tt 246 [S l, .v (.int .u8 (c.toNat : Int))] (I (Lib.indexByte l c)) := EvF.ext (g := xIndexByte) rfl rfl (by simp [xIndexByte])
theorem cut_e {s : Bs} (hl : s.length < 1000000) : EvF tt 81 [S s, S [47]] (.tup [S (cutS s).1, S (cutS s).2.1, B (cutS s).2.2]) := by
  have hi : EvF tt 199 [S s, S [47]] (I (Lib.indexByte s 47)) := by
    refine evF (eIn Tryz.func199 rfl rfl ?_)
    refine qN rfl rfl ?_
    refine qC rfl (fun h => ?_) (fun h => ?_)
    · have h : [47] = s := h
      subst h
      exact qR rfl ⟨rfl, rfl⟩
    refine qT rfl rfl ?_
    refine qV rfl rfl ?_
    refine qK rfl (islite_e s 47) rfl ?_
    exact qR rfl ⟨rfl, rfl⟩
  have hc : EvF tt 143 [S s, S [47]] (.tup [S (cutS s).1, S (cutS s).2.1, B (cutS s).2.2]) := by
    refine evF (eIn Tryz.func143 rfl rfl ?_)
    refine qK rfl hi rfl ?_
    rcases cutS_spec s with ⟨h1, h2, h3⟩ | ⟨h1, h2, h3, h4⟩
    · refine qT rfl (decide_eq_true (by rw [h2]; omega)) ?_
      rw [h1]
      have e1 := ssl_cut1 (cutS s).1 (cutS s).2.1
      have e2 := ssl_cut2 (cutS s).1 (cutS s).2.1 (by have := (cutS_len s).1; omega)
      rw [← h3, ← h2] at e1 e2
      refine qV rfl e1 ?_
      refine qV rfl e2 ?_
      refine qE rfl (by kernel_rfl) (by kernel_rfl) ?_
      exact qR rfl ⟨rfl, rfl⟩
    · refine qN rfl (decide_eq_false (by rw [h2]; omega)) ?_
      rw [h1, h3, h4]
      exact qR rfl ⟨rfl, rfl⟩
  refine evF (eIn Tryz.func81 rfl rfl ?_)
  refine qK rfl hc rfl ?_
  exact qR rfl ⟨rfl, rfl⟩
theorem readB_len (s : Bs) (hl : s.length ≤ 500) : (readB s).1.Digits.length ≤ 100 := by
  unfold readB
  split
  · decide
  · split
    · rename_i hg
      have hall : (cut s).1.all isd = true := by unfold good at hg; simp only [Bool.and_eq_true] at hg; exact hg.2
      have hc := cut_len s
      have h := dv_sm hall (by omega)
      split
      · exact len_of_sm h.neg
      · exact len_of_sm h
    · decide
theorem ftext_all {f : Frac} {k : Nat} (hp : f.P.Digits.length ≤ k) (hq : f.Q.Digits.length ≤ k) (hk : k < 1000000) : EvF tt 33 [.v (eF f)] (S (textF f)) := by
  cases hr : rightf f with
  | false =>
    have := ftext_not hp hq hk hr
    unfold textF
    rw [hr]; exact this
  | true =>
    obtain ⟨r, rfl⟩ := toF_of_rightf hr
    rw [textF_toF]
    exact ftext_e (k := k) ⟨sm_of_len hp, sm_of_len hq⟩ hk
theorem fread_e {s : Bs} (hl : s.length < 1000000) (h1 : (cutS s).1.length ≤ 500) (h2 : (cutS s).2.1.length ≤ 500) : EvF tt 38 [S s] (.tup [.v (eF (readF s).1), I (readF s).2]) := by
  refine evF (eIn Tryz.func38 rfl rfl ?_)
  have hc := cut_e hl
  refine qK rfl hc rfl ?_
  have l1 := readB_len (cutS s).1 h1
  have l2 := readB_len (cutS s).2.1 h2
  have r1 := read_e h1
  have r2 := read_e h2
  unfold readF
  generalize readB (cutS s).1 = p at *
  generalize readB (cutS s).2.1 = q at *
  refine qK rfl r1 rfl ?_
  refine qK rfl r2 rfl ?_
  refine qC rfl (fun e1 => ?_) (fun e1 => ?_)
  · have e1 : p.2 = 0 := e1
    refine qC rfl (fun e2 => ?_) (fun e2 => ?_)
    · have e2 : q.2 = 0 := e2
      refine qK rfl (fright_e (f := ⟨p.1, q.1⟩) l1 l2 (by decide)) rfl ?_
      refine qC rfl (fun e3 => ?_) (fun e3 => ?_)
      · have e3 : rightf ⟨p.1, q.1⟩ = true := e3
        refine qK rfl (ftext_all (f := ⟨p.1, q.1⟩) l1 l2 (by decide)) rfl ?_
        refine qC rfl (fun e4 => ?_) (fun e4 => ?_)
        · have e4 : textF ⟨p.1, q.1⟩ = s := e4
          rw [if_pos ⟨e1, e2, e3, e4⟩]
          exact qR rfl ⟨rfl, rfl⟩
        · have e4 : ¬ textF ⟨p.1, q.1⟩ = s := e4
          rw [if_neg fun h => e4 h.2.2.2]
          exact qR rfl ⟨rfl, rfl⟩
      · have e3 : ¬ rightf ⟨p.1, q.1⟩ = true := e3
        rw [if_neg fun h => e3 h.2.2.1]
        exact qR rfl ⟨rfl, rfl⟩
    · have e2 : ¬ q.2 = 0 := e2
      rw [if_neg fun h => e2 h.2.1]
      exact qR rfl ⟨rfl, rfl⟩
  · have e1 : ¬ p.2 = 0 := e1
    rw [if_neg fun h => e1 h.1]
    exact qR rfl ⟨rfl, rfl⟩
end Go.Proofs.YteekaonhdckicaaGreatDoor.Dp

namespace Go.Proofs.YteekaonhdckicaaGreatDoor.Dp
open Go Go.RowKit Go.Proofs.YteekaonhdckicaaGreatDoor.Rt Go.Proofs Go.Proofs.YteekaonhdckicaaGreatDoor.D
set_option linter.unusedVariables false
set_option maxHeartbeats 4000000
set_option maxRecDepth 100000
abbrev rdA (d : Bool) (s : Bs) : Blk := ⟨0, 0, false, d, false, .box 131 [S s, B false]⟩
abbrev rdD : Blk := ⟨0, 0, false, true, false, .box 131 [S [], B true]⟩
abbrev rd0 : Blk := ⟨0, 0, false, false, false, .box 131 [S [], B true]⟩
theorem fail_a (s : Bs) : EvH tt 142 [.bp 0 0] [rdA false s] (.tup []) [rdD] := by
  refine evF (eInH 1 Tryz.func142 rfl rfl rfl ?_)
  exact qR rfl ⟨rfl, rfl⟩
theorem fail_d : EvH tt 142 [.bp 0 0] [rd0] (.tup []) [rdD] := by
  refine evF (eInH 1 Tryz.func142 rfl rfl rfl ?_)
  exact qR rfl ⟨rfl, rfl⟩
theorem close_a {s e : Bs} (h : Lib.hasPrefix s e = true) : EvH tt 141 [.bp 0 0, S e] [rdA false s] (.tup []) [rdA true (Lib.trimPrefix s e)] := by
  refine evF (eInH 1 Tryz.func141 rfl rfl rfl ?_)
  refine qK rfl (cutPrefix_e _ _) rfl ?_
  refine qN rfl (by rw [h]; rfl) ?_
  exact qR rfl ⟨rfl, rfl⟩
theorem close_b {s e : Bs} (h : Lib.hasPrefix s e = false) : EvH tt 141 [.bp 0 0, S e] [rdA false s] (.tup []) [rdD] := by
  refine evF (eInH 1 Tryz.func141 rfl rfl rfl ?_)
  refine qK rfl (cutPrefix_e _ _) rfl ?_
  refine qT rfl (by rw [h]; rfl) ?_
  refine qK rfl (fail_a _) rfl ?_
  exact qR rfl ⟨rfl, rfl⟩
theorem close_d {e : Bs} (h : Lib.hasPrefix [] e = false) : EvH tt 141 [.bp 0 0, S e] [rd0] (.tup []) [rdD] := by
  refine evF (eInH 1 Tryz.func141 rfl rfl rfl ?_)
  refine qK rfl (cutPrefix_e _ _) rfl ?_
  refine qT rfl (by rw [h]; rfl) ?_
  have ht : Lib.trimPrefix [] e = [] := by unfold Lib.trimPrefix; rw [h]; rfl
  rw [ht]
  refine qK rfl fail_d rfl ?_
  exact qR rfl ⟨rfl, rfl⟩
theorem indexByte_e (l : Bs) (c : UInt8) : EvF tt 197 [S l, .v (.int .u8 (c.toNat : Int))] (I (Lib.indexByte l c)) := EvF.ext (g := xIndexByte) rfl rfl (by simp [xIndexByte])
def numD (e : UInt8) (s : Bs) : Bs := (s.take 21).take (Lib.indexByte (s.take 21) e).toNat
def numR (e : UInt8) (least : Int) (s : Bs) : Option (Int × Bs) :=
  if Lib.indexByte (s.take 21) e < 0 then none
  else match Lib.atoiAll (numD e s) with
    | .ok n => if Lib.itoa n = numD e s ∧ least ≤ n then some (n, s.drop ((Lib.indexByte (s.take 21) e).toNat + 1)) else none
    | _ => none
theorem imin_take (s : Bs) : ssl s 0 (imin (s.length : Int) 21) = some (s.take 21) := by
  unfold imin ssl
  by_cases h : 21 < (s.length : Int)
  · rw [if_pos h, if_pos (by omega)]; rfl
  · rw [if_neg h, if_pos (by omega), Int.toNat_natCast, List.take_length, List.take_of_length_le (by omega)]; rfl
theorem ssl_front {s : Bs} {n : Int} (h0 : 0 ≤ n) (h1 : n ≤ s.length) : ssl s 0 n = some (s.take n.toNat) := by unfold ssl; rw [if_pos ⟨by omega, h0, h1⟩]; rfl
theorem ssl_back {s : Bs} {n : Int} (h0 : 0 ≤ n) (h1 : n ≤ s.length) : ssl s n s.length = some (s.drop n.toNat) := by unfold ssl; rw [if_pos ⟨h0, h1, by omega⟩, Int.toNat_natCast, List.take_length]
theorem idx_lt (c : UInt8) : ∀ l : Bs, Lib.indexByte l c < l.length
  | [] => by show (-1 : Int) < 0; decide
  | b :: l => by
    have := idx_lt c l
    unfold Lib.indexByte
    simp only [List.length_cons]
    split
    · omega
    · split <;> omega
theorem atoi_rng {l : Bs} {n : Int} (h : Lib.atoiAll l = .ok n) : -9223372036854775808 ≤ n ∧ n ≤ 9223372036854775807 := by
  unfold Lib.atoiAll at h
  split at h
  · cases h
  · dsimp only at h
    split at h
    · cases h
    · cases h
    · split at h
      · cases h
      · split at h
        · cases h
        · cases h
          rename_i h1 h2
          split <;> omega
def numQ (e : UInt8) (least : Int) (s : Bs) (r : DV) (H : DH) : Prop := match numR e least s with
  | some (n, t) => r = I n ∧ H = [rdA true t]
  | none => r = I 0 ∧ H = [rdD]
theorem number_q (s : Bs) (e : UInt8) (least : Int) (hl : s.length < 1000000) : Ev tt 140 [.bp 0 0, .v (.int .u8 (e.toNat : Int)), I least] [rdA false s] (numQ e least s) := by
  refine eInH 1 Tryz.func140 rfl rfl rfl ?_
  refine qV rfl (imin_take s) ?_
  refine qE rfl (by kernel_rfl) (by kernel_rfl) ?_
  refine qK rfl (indexByte_e _ _) rfl ?_
  have bad : numR e least s = none → numQ e least s (I 0) [rdD] := fun h => by unfold numQ; rw [h]; exact ⟨rfl, rfl⟩
  refine qC rfl (fun h => ?_) (fun h => ?_)
  · have h : Lib.indexByte (s.take 21) e < 0 := h
    refine qK rfl (fail_a _) rfl ?_
    exact qR rfl (bad (by unfold numR; rw [if_pos h]))
  · have h : ¬ Lib.indexByte (s.take 21) e < 0 := h
    have hlt := idx_lt e (s.take 21)
    have hls : (s.take 21).length ≤ s.length ∧ (s.take 21).length ≤ 21 := by rw [List.length_take]; omega
    refine qV rfl (ssl_front (by omega) (by omega)) ?_
    have hd : (numD e s).length ≤ 21 := by unfold numD; rw [List.length_take]; omega
    have hat : ∀ r, xAtoi [.str (numD e s)] = some r → EvF tt 198 [S (numD e s)] r := fun r hr => EvF.ext (g := xAtoi) rfl rfl hr
    cases ha : Lib.atoiAll (numD e s) with
    | ok n =>
      have hr := atoi_rng ha
      refine qK rfl (hat (.tup [I n, .v (.val .nilIface)]) (by simp only [xAtoi, ha]; rw [decide_eq_true (by omega)]; rfl)) rfl ?_
      refine qV rfl rfl ?_
      refine qK rfl (itoa_e hr.1 hr.2) rfl ?_
      refine qV rfl (ssl_front (by omega) (by omega)) ?_
      refine qC rfl (fun h1 => ?_) (fun h1 => ?_)
      · have h1 : ¬ Lib.itoa n = numD e s := h1
        refine qE rfl (by kernel_rfl) (by kernel_rfl) ?_
        refine qK rfl (fail_a _) rfl ?_
        exact qR rfl (bad (by unfold numR; rw [if_neg h, ha]; exact if_neg fun h2 => h1 h2.1))
      · have h1 : ¬ ¬ Lib.itoa n = numD e s := h1
        have h1 := Classical.not_not.1 h1
        refine qE rfl (by kernel_rfl) (by kernel_rfl) ?_
        refine qC rfl (fun h2 => ?_) (fun h2 => ?_)
        · have h2 : n < least := h2
          refine qK rfl (fail_a _) rfl ?_
          exact qR rfl (bad (by unfold numR; rw [if_neg h, ha]; exact if_neg fun h3 => by omega))
        · have h2 : ¬ n < least := h2
          have hi : iadd .i64 (Lib.indexByte (s.take 21) e) 1 = Lib.indexByte (s.take 21) e + 1 := iadd_i64 (by omega) (by omega)
          refine qV rfl (ssl_back (by rw [hi]; omega) (by rw [hi]; omega)) ?_
          refine qR rfl ?_
          unfold numQ
          rw [show numR e least s = some (n, s.drop ((Lib.indexByte (s.take 21) e).toNat + 1)) by unfold numR; rw [if_neg h, ha]; exact if_pos ⟨h1, by omega⟩]
          refine ⟨rfl, ?_⟩
          rw [hi, show (Lib.indexByte (s.take 21) e + 1).toNat = (Lib.indexByte (s.take 21) e).toNat + 1 by omega]
          rfl
    | range =>
      refine qK rfl (hat (.tup [I (Lib.atoiSat (numD e s)), .v .ifc]) (by simp only [xAtoi, ha]; rw [decide_eq_true (by omega)]; rfl)) rfl ?_
      refine qV rfl rfl ?_
      refine qE rfl (by kernel_rfl) (by kernel_rfl) ?_
      refine qK rfl (fail_a _) rfl ?_
      exact qR rfl (bad (by unfold numR; rw [if_neg h, ha]))
    | _ =>
      refine qK rfl (hat (.tup [I 0, .v .ifc]) (by simp only [xAtoi, ha]; rw [decide_eq_true (by omega)]; rfl)) rfl ?_
      refine qV rfl rfl ?_
      refine qE rfl (by kernel_rfl) (by kernel_rfl) ?_
      refine qK rfl (fail_a _) rfl ?_
      exact qR rfl (bad (by unfold numR; rw [if_neg h, ha]))
theorem number_a {s t : Bs} {e : UInt8} {least n : Int} (hl : s.length < 1000000) (h : numR e least s = some (n, t)) : EvH tt 140 [.bp 0 0, .v (.int .u8 (e.toNat : Int)), I least] [rdA false s] (I n) [rdA true t] := by
  obtain ⟨k, r, H, h1, h2⟩ := number_q s e least hl
  unfold numQ at h2
  rw [h] at h2
  obtain ⟨rfl, rfl⟩ := h2
  exact ⟨k, h1⟩
theorem number_b {s : Bs} {e : UInt8} {least : Int} (hl : s.length < 1000000) (h : numR e least s = none) : EvH tt 140 [.bp 0 0, .v (.int .u8 (e.toNat : Int)), I least] [rdA false s] (I 0) [rdD] := by
  obtain ⟨k, r, H, h1, h2⟩ := number_q s e least hl
  unfold numQ at h2
  rw [h] at h2
  obtain ⟨rfl, rfl⟩ := h2
  exact ⟨k, h1⟩
def textR (s : Bs) : Option (Bs × Bs) := match numR 58 0 s with
  | none => none
  | some (n, t) => if n > t.length then none else if Lib.hasPrefix (t.drop n.toNat) [44] = true then some (t.take n.toNat, Lib.trimPrefix (t.drop n.toNat) [44]) else none
def texQ (s : Bs) (r : DV) (H : DH) : Prop := match textR s with
  | some (x, t) => r = S x ∧ H = [rdA true t]
  | none => r = S [] ∧ H = [rdD]
theorem numR_len {e : UInt8} {least n : Int} {s t : Bs} (h : numR e least s = some (n, t)) : least ≤ n ∧ t.length ≤ s.length := by
  unfold numR at h
  split at h
  · cases h
  · split at h
    · split at h
      · rename_i hc; cases h; exact ⟨hc.2, by rw [List.length_drop]; omega⟩
      · cases h
    · cases h
theorem text_q (s : Bs) (hl : s.length < 1000000) : Ev tt 80 [.bp 0 0] [rdA false s] (texQ s) := by
  refine eInH 1 Tryz.func80 rfl rfl rfl ?_
  have bad : textR s = none → texQ s (S []) [rdD] := fun h => by unfold texQ; rw [h]; exact ⟨rfl, rfl⟩
  cases hn : numR 58 0 s with
  | none =>
    have hb : textR s = none := by unfold textR; rw [hn]
    refine qK rfl (number_b hl hn) rfl ?_
    refine qN rfl (by decide) ?_
    refine qV rfl (show ssl [] 0 0 = some [] from rfl) ?_
    refine qV rfl (show ssl [] 0 0 = some [] from rfl) ?_
    refine qK rfl (close_d (e := [44]) rfl) rfl ?_
    refine qT rfl rfl ?_
    exact qR rfl (bad hb)
  | some p =>
    obtain ⟨n, t⟩ := p
    have h0 := (numR_len hn).1
    refine qK rfl (number_a hl hn) rfl ?_
    refine qC rfl (fun h => ?_) (fun h => ?_)
    · have h : (t.length : Int) < n := h
      refine qK rfl (fail_a _) rfl ?_
      exact qR rfl (bad (by unfold textR; rw [hn]; exact if_pos h))
    · have h : ¬ (t.length : Int) < n := h
      refine qV rfl (ssl_front h0 (by omega)) ?_
      refine qV rfl (ssl_back h0 (by omega)) ?_
      cases hp : Lib.hasPrefix (t.drop n.toNat) [44] with
      | false =>
        refine qK rfl (close_b hp) rfl ?_
        refine qT rfl rfl ?_
        exact qR rfl (bad (by unfold textR; rw [hn]; simp only [hp]; rw [if_neg h]; rfl))
      | true =>
        refine qK rfl (close_a hp) rfl ?_
        refine qN rfl rfl ?_
        refine qR rfl ?_
        unfold texQ
        rw [show textR s = some (t.take n.toNat, Lib.trimPrefix (t.drop n.toNat) [44]) by unfold textR; rw [hn]; simp only [hp]; rw [if_neg h]; rfl]
        exact ⟨rfl, rfl⟩
theorem text_a {s x t : Bs} (hl : s.length < 1000000) (h : textR s = some (x, t)) : EvH tt 80 [.bp 0 0] [rdA false s] (S x) [rdA true t] := by
  obtain ⟨k, r, H, h1, h2⟩ := text_q s hl
  unfold texQ at h2
  rw [h] at h2
  obtain ⟨rfl, rfl⟩ := h2
  exact ⟨k, h1⟩
theorem text_b {s : Bs} (hl : s.length < 1000000) (h : textR s = none) : EvH tt 80 [.bp 0 0] [rdA false s] (S []) [rdD] := by
  obtain ⟨k, r, H, h1, h2⟩ := text_q s hl
  unfold texQ at h2
  rw [h] at h2
  obtain ⟨rfl, rfl⟩ := h2
  exact ⟨k, h1⟩
def manyR : Nat → Bs → Option (List Bs × Bs)
  | 0, s => some ([], s)
  | k + 1, s => match textR s with
    | none => none
    | some (x, t) => match manyR k t with
      | none => none
      | some (l, u) => some (x :: l, u)
def textsR (s : Bs) : Option (List Bs × Bs) := match numR 91 0 s with
  | none => none
  | some (n, t) => match manyR n.toNat t with
    | none => none
    | some (l, u) => if Lib.hasPrefix u [93] = true then some (l, Lib.trimPrefix u [93]) else none
def txsQ (s : Bs) (r : DV) (H : DH) : Prop := match textsR s with
  | some (l, t) => r = L (ss l) ∧ H = [rdA true t]
  | none => r = L [] ∧ H = [rdD]
theorem numR_lt {e : UInt8} {least n : Int} {s t : Bs} (h : numR e least s = some (n, t)) : t.length < s.length := by
  unfold numR at h
  split at h
  · cases h
  · rename_i h0
    have := idx_lt e (s.take 21)
    rw [List.length_take] at this
    split at h
    · split at h
      · cases h; rw [List.length_drop]; omega
      · cases h
    · cases h
theorem numR_rng {e : UInt8} {least n : Int} {s t : Bs} (h : numR e least s = some (n, t)) : n ≤ 9223372036854775807 := by
  unfold numR at h
  split at h
  · cases h
  · split at h
    · rename_i ha
      split at h
      · cases h; exact (atoi_rng ha).2
      · cases h
    · cases h
theorem trimP_len (s p : Bs) : (Lib.trimPrefix s p).length ≤ s.length := by
  unfold Lib.trimPrefix
  split
  · rw [List.length_drop]; omega
  · omega
theorem textR_lt {s x t : Bs} (h : textR s = some (x, t)) : t.length < s.length := by
  unfold textR at h
  split at h
  · cases h
  · rename_i n u hn
    have h1 := numR_lt hn
    split at h
    · cases h
    · split at h
      · cases h
        have h2 := trimP_len (u.drop n.toNat) [44]
        rw [List.length_drop] at h2
        omega
      · cases h
theorem items_q (s : Bs) (hl : s.length < 1000000) : Ev tt 79 [.bp 0 0, .clo 80 [.bp 0 0] []] [rdA false s] (txsQ s) := by
  refine eInH 1 Tryz.func79 rfl rfl rfl ?_
  have bad : textsR s = none → txsQ s (L []) [rdD] := fun h => by unfold txsQ; rw [h]; exact ⟨rfl, rfl⟩
  cases hn : numR 91 0 s with
  | none =>
    refine qK rfl (number_b hl hn) rfl ?_
    refine qB ?_ rfl
    refine qI ?_
    refine qN rfl (by decide) ?_
    refine qK rfl (close_d (e := [93]) rfl) rfl ?_
    refine qT rfl rfl ?_
    exact qR rfl (bad (by unfold textsR; rw [hn]))
  | some p =>
    obtain ⟨n, t⟩ := p
    have h0 := numR_len hn
    refine qK rfl (number_a hl hn) rfl ?_
    refine qL (σ := Int × List VT × Bs × Bool) (fun q => [(6, I q.1)]) (fun q => [(0, .box 131 [S q.2.2.1, B q.2.2.2]), (1, .row 9 1 q.2.1)])
      (fun q => (q.2.2.2 = true ∧ q.2.2.1 = [] ∧ textsR s = none) ∨ (q.2.2.2 = false ∧ 0 ≤ q.1 ∧ q.1 ≤ 9223372036854775807 ∧ ∃ acc, q.2.1 = ss acc ∧ acc.length + q.2.2.1.length ≤ s.length ∧ textsR s = match manyR q.1.toNat q.2.2.1 with
        | none => none
        | some (l, u) => if Lib.hasPrefix u [93] = true then some (acc ++ l, Lib.trimPrefix u [93]) else none)) (fun q => q.1.toNat) (n, [], t, false) rfl rfl (.inr ⟨rfl, h0.1, numR_rng hn, [], rfl, by show 0 + t.length ≤ _; omega, by unfold textsR; rw [hn]; rfl⟩) ?_
    rintro ⟨k, out, u, b⟩ hJ ih
    have hJ : (b = true ∧ u = [] ∧ textsR s = none) ∨ (b = false ∧ 0 ≤ k ∧ k ≤ 9223372036854775807 ∧ ∃ acc, out = ss acc ∧ acc.length + u.length ≤ s.length ∧ textsR s = match manyR k.toNat u with
        | none => none
        | some (l, u) => if Lib.hasPrefix u [93] = true then some (acc ++ l, Lib.trimPrefix u [93]) else none) := hJ
    rcases hJ with ⟨rfl, rfl, hno⟩ | ⟨rfl, hk, hk9, acc, rfl, hle, hts⟩
    · refine qC rfl (fun h => ?_) (fun h => ?_)
      · refine qN rfl rfl ?_
        refine qK rfl (close_d (e := [93]) rfl) rfl ?_
        refine qT rfl rfl ?_
        exact qR rfl (bad hno)
      · refine qK rfl (close_d (e := [93]) rfl) rfl ?_
        refine qT rfl rfl ?_
        exact qR rfl (bad hno)
    · refine qC rfl (fun h => ?_) (fun h => ?_)
      · have h : 0 < k := h
        obtain ⟨j, rfl⟩ : ∃ j : Nat, k = ((j + 1 : Nat) : Int) := ⟨(k - 1).toNat, by omega⟩
        have hk1 : ((j + 1 : Nat) : Int).toNat = j + 1 := rfl
        rw [hk1] at hts
        unfold manyR at hts
        have hj : isub .i64 ((j + 1 : Nat) : Int) 1 = (j : Int) := by rw [isub_i64 (by omega) (by omega)]; omega
        have hul : u.length < 1000000 := by omega
        refine qT rfl rfl ?_
        cases hx : textR u with
        | none =>
          rw [hx] at hts
          refine qK rfl (text_b hul hx) rfl ?_
          refine qA 16 rfl rfl (by simp; omega) ?_
          refine qB (ih (isub .i64 ((j + 1 : Nat) : Int) 1, ss acc ++ [.str []], [], true) (.inl ⟨rfl, rfl, hts⟩) ?_) (by kernel_rfl)
          show (isub .i64 ((j + 1 : Nat) : Int) 1).toNat < j + 1
          rw [hj]; omega
        | some p =>
          obtain ⟨x, v⟩ := p
          have hlt := textR_lt hx
          rw [hx] at hts
          refine qK rfl (text_a hul hx) rfl ?_
          refine qA 16 rfl rfl (by simp; omega) ?_
          refine qB (ih (isub .i64 ((j + 1 : Nat) : Int) 1, ss acc ++ [.str x], v, false) (.inr ⟨rfl, by rw [hj]; omega, by rw [hj]; omega, acc ++ [x], by simp, by simp; omega, ?_⟩) ?_) (by kernel_rfl)
          · rw [hts, hj, Int.toNat_natCast]
            dsimp only
            rcases manyR j v with _ | ⟨l, w⟩
            · rfl
            · simp
          · show (isub .i64 ((j + 1 : Nat) : Int) 1).toNat < j + 1
            rw [hj]; omega
      · have h : ¬ 0 < k := h
        obtain rfl : k = 0 := by omega
        have hts : textsR s = if Lib.hasPrefix u [93] = true then some (acc ++ [], Lib.trimPrefix u [93]) else none := hts
        cases hp : Lib.hasPrefix u [93] with
        | false =>
          rw [hp] at hts
          refine qK rfl (close_b hp) rfl ?_
          refine qT rfl rfl ?_
          exact qR rfl (bad hts)
        | true =>
          rw [hp, if_pos rfl, List.append_nil] at hts
          refine qK rfl (close_a hp) rfl ?_
          refine qN rfl rfl ?_
          refine qR rfl ?_
          unfold txsQ
          rw [hts]
          exact ⟨rfl, rfl⟩
theorem texts_q (s : Bs) (hl : s.length < 1000000) : Ev tt 36 [.bp 0 0] [rdA false s] (txsQ s) := by
  refine eInH 1 Tryz.func36 rfl rfl rfl ?_
  have h := items_q s hl
  obtain ⟨k, r, H, h1, h2⟩ := h
  unfold txsQ at h2
  cases ht : textsR s with
  | none =>
    rw [ht] at h2
    obtain ⟨rfl, rfl⟩ := h2
    refine qK rfl ⟨k, h1⟩ rfl ?_
    refine qR rfl ?_
    unfold txsQ
    rw [ht]
    exact ⟨rfl, rfl⟩
  | some p =>
    obtain ⟨l, t⟩ := p
    rw [ht] at h2
    obtain ⟨rfl, rfl⟩ := h2
    refine qK rfl ⟨k, h1⟩ rfl ?_
    refine qR rfl ?_
    unfold txsQ
    rw [ht]
    exact ⟨rfl, rfl⟩
theorem open_e (s : Bs) : EvH tt 35 [S s] [] (.bp 0 0) [bk (.box 131 [S s, B false])] := by
  refine evF (eIn Tryz.func35 rfl rfl ?_)
  exact qR rfl ⟨rfl, rfl⟩
theorem done_a (s : Bs) : EvH tt 37 [.bp 0 0] [rdA false s] (B (s == [])) [rdA false s] := by
  refine evF (eInH 1 Tryz.func37 rfl rfl rfl ?_)
  refine qT rfl rfl ?_
  exact qR rfl ⟨rfl, rfl⟩
theorem done_d : EvH tt 37 [.bp 0 0] [rd0] (B false) [rd0] := by
  refine evF (eInH 1 Tryz.func37 rfl rfl rfl ?_)
  refine qN rfl rfl ?_
  exact qR rfl ⟨rfl, rfl⟩
theorem itoa_len20 {n : Nat} (h : n ≤ 1000000) : (Lib.itoa (n : Int)).length ≤ 20 := by
  rw [itoa_nat]
  have := dec_len 7 n (by omega)
  omega
theorem wtext_e {s : Bs} (hl : s.length ≤ 1000000) : EvF tt 78 [S s] (S (wText s)) := by
  refine evF (eIn Tryz.func78 rfl rfl ?_)
  have hi := itoa_len20 hl
  refine qK rfl (itoa_e (by omega) (by omega)) rfl ?_
  refine qS rfl (by show _ + 1 ≤ _; omega) ?_
  refine qS rfl (by simp only [List.length_append]; show _ + 1 + _ ≤ _; omega) ?_
  refine qS rfl (by simp only [List.length_append]; show _ + 1 + _ + 1 ≤ _; omega) ?_
  exact qR rfl ⟨rfl, rfl⟩
def fracsR : List Bs → Option (List Frac)
  | [] => some []
  | x :: l => if (readF x).2 = 0 then match fracsR l with
      | none => none
      | some r => some ((readF x).1 :: r)
    else none
abbrev fs (l : List Frac) : List VT := l.map eF
end Go.Proofs.YteekaonhdckicaaGreatDoor.Dp

