-- Written by a program of this session (the kit's print with mkprint.py's replacements). Lean checks it.
import Derived.Test.YtaofommgdgmncaaPr0
import Derived.Test.YtaofommgdgmncaaIter
namespace Go.Proofs.Ytaofommgdgmncaa.Pr
open Go.RowKit Go.Proofs.YtaofommgdgmncaaW.PrintWords Go.Proofs.YtaofommgdgmncaaW.PrintLast Go.Proofs.YtaofommgdgmncaaW.PrintMore
attribute [local go_sem] Instr.field asAgg
attribute [local go_sem] max2_int min2_int max_two min_two max_three min_three max_four min_four   -- for this text's walks alone
set_option linter.unusedVariables false
set_option linter.unusedSimpArgs false

-- STUBBED 39
/-! ### eventlog_insert: function 39: by hand -/
open Go.Proofs.Ytaofommgdgmncaa.Iter

def lessB (a b : ByteArray) : Bool := Op.bytesLess a.toList b.toList
def posS (out : List ByteArray) (s : ByteArray) : Nat := (out.takeWhile (lessB · s)).length
def insS (out : List ByteArray) (s : ByteArray) : List ByteArray := if (out[posS out s]?).map (·.toList) = some s.toList then out else out.take (posS out s) ++ s :: out.drop (posS out s)
def eventlog_insert.f (l0 : List ByteArray) (a1 : ByteArray) : Option (List ByteArray) := if l0.length ≤ 1099511627776 then some (insS l0 a1) else none

theorem takeWhile_atS {α : Type} (p : α → Bool) : ∀ (l : List α) (j : Nat), (∀ q, (h : q < l.length) → q < j → p l[q] = true) → j ≤ l.length → (∀ h : j < l.length, p l[j] = false) → (l.takeWhile p).length = j
  | [], j, _, h2, _ => by simp at h2; simp [h2]
  | x :: l, 0, _, _, h3 => by
    have := h3 (by simp)
    simp at this
    simp [this]
  | x :: l, j + 1, h1, h2, h3 => by
    have hx : p x = true := h1 0 (by simp) (by omega)
    rw [List.takeWhile_cons, if_pos hx, List.length_cons, takeWhile_atS p l j (fun q hq hj => h1 (q + 1) (by simp; omega) (by omega)) (by simp at h2; omega) (fun h => h3 (by simp; omega))]

set_option maxHeartbeats 8000000 in
set_option maxRecDepth 100000 in
theorem eventlog_insert.calls (P0_ : Nat → Prop) (u9000_ : Value) (l0 : List ByteArray) (a1 : ByteArray) (r : List ByteArray) (w0 w : World) (hB : Below w0.heap.size w0 w) (ho0 : Kd.R Kd.string 9 w w0.heap.size P0_ u9000_ l0) (h : eventlog_insert.f l0 a1 = some r) :
    Calls Try.prog 39 #[u9000_, .string a1] w fun e w' => ∃ v0_ : Value, e = .returned (v0_) ∧ Kd.R Kd.string 9 w' w0.heap.size (fun k_ => (P0_ k_ ∨ w.heap.size ≤ k_)) v0_ r ∧ Below w0.heap.size w0 w' ∧ Kept w w' (fun k_ => P0_ k_) := by
  have HO := Aside0.mk (show Kd.R Kd.string 9 w w0.heap.size (fun k_ => (P0_ k_ ∨ w.heap.size ≤ k_)) u9000_ l0 from Kd.R_mono ho0 (fun k_ hk => .inl hk))
  have HP0 := Aside0.mk ho0.1
  have HB := Aside0.mk hB
  have hbs : w0.heap.size ≤ w.heap.size := hB.size
  clear ho0 hB
  have hle : l0.length ≤ 1099511627776 := by
    unfold eventlog_insert.f at h
    split at h
    · assumption
    · cases h
  have HF : Aside0 (r = insS l0 a1) := ⟨by
    unfold eventlog_insert.f at h
    rw [if_pos hle] at h
    exact (Option.some.inj h).symm⟩
  clear h
  obtain ⟨A1, c1, rfl, hle1, hC⟩ := Kd.R_reads HO.out
  have HC := Aside0.mk hC
  clear hC
  go_enter Try.func39, Try.ntmps39
  go_wp2
  go_loop [5] (fun v5 => ∃ j : Nat, v5 = .int .i64 j ∧ j ≤ l0.length ∧ Aside0 (∀ q, (h : q < l0.length) → q < j → lessB l0[q] a1 = true)) (fun v5 => l0.length - (intOf v5).toNat)
  case atStart => exact ⟨0, rfl, Nat.zero_le _, ⟨fun _ _ h => absurd h (Nat.not_lt_zero _)⟩⟩
  case round =>
    obtain ⟨j, rfl, hj, HQ⟩ := hrel
    by_cases hjl : j < l0.length
    · obtain ⟨ad2, e2, hx2⟩ := Kd.at_string HC.out (j : Int) (by omega) (by omega)
      cases e2
      rw [Int.toNat_natCast] at hx2
      have hrd : rdOf ByteArray.empty l0 (j : Int) = l0[j] := by simp [rdOf, hjl]
      rw [hrd] at hx2
      obtain ⟨x, hxo⟩ : ∃ x, x = l0[j] := ⟨_, rfl⟩
      rw [← hxo] at hx2
      have HX := Aside0.mk hxo
      clear hxo hrd
      cases hb : lessB x a1 with
      | true =>
        have hb' : Op.bytesLess x.toList a1.toList = true := hb
        have HB2 := Aside0.mk hb
        clear hb
        go_wp2
        go_round
        case rel => exact ⟨j + 1, by go_num, by omega, ⟨fun q hq hlt2 => by
          by_cases e : q = j
          · subst e; rw [← HX.out]; exact HB2.out
          · exact HQ.out q hq (by omega)⟩⟩
        case measure => simp [intOf]; omega
      | false =>
        have HP : Aside0 (posS l0 a1 = j) := ⟨takeWhile_atS (lessB · a1) l0 j (fun q hq hlt2 => HQ.out q hq hlt2) (by omega) (fun _ => by rw [← HX.out]; exact hb)⟩
        have hb' : Op.bytesLess x.toList a1.toList = false := hb
        clear hb
        by_cases hxs : x.toList = a1.toList
        · have HIN : Aside0 (insS l0 a1 = l0) := ⟨by unfold insS; rw [HP.out, List.getElem?_eq_getElem hjl, ← HX.out]; simp [hxs]⟩
          have hbeq : (x.toList == a1.toList) = true := beq_iff_eq.mpr hxs
          have hr : r = l0 := HF.out.trans HIN.out
          have HR := Aside0.mk hr
          clear hxs hr
          go_wp2
          go_ret
          exact ⟨_, rfl, by rw [HR.out]; exact HO.out, HB.out, Kept.refl _ _⟩
        · have HIN : Aside0 (insS l0 a1 = l0.take j ++ a1 :: l0.drop j) := ⟨by unfold insS; rw [HP.out, List.getElem?_eq_getElem hjl, ← HX.out]; simp [hxs]⟩
          have hbeq : (x.toList == a1.toList) = false := beq_eq_false_iff_ne.mpr hxs
          clear hxs
          go_wp2_with ((with_reducible refine gate_builtin (b := .append) (xs := #[.tmp 33, .tmp 34]) rfl ?_); at_builtin; refine Kd.R_append Kd.string (w0 := w0) w0.heap.size rfl (.tmp 33) (.tmp 34) 34 9 (.string ⟨#[]⟩) 16 rfl Try.underlying34 info9 rfl (by decide) (by omega) (.slice (some ad2) l0.length c1) l0 ⟨#[]⟩ [.string ⟨#[]⟩] (fun k_ => (P0_ k_ ∨ w.heap.size ≤ k_)) (fun _ => False) rfl rfl ?aP (fun _ hk => hk.elim) ?aF ?aO ?aB ?aS ?aL ?_; (case aP => exact rfl); (case aB => exact HB.out); (case aF => exact (fun _ hk => .inr hk)); (case aO => exact HO.out); (case aS => exact hbs); (case aL => omega); intro v' w4 ho hb4 hg hat; have HO4 := Aside0.mk ho; have HB4 := Aside0.mk hb4; have HG4 := Aside0.mk hg; have hown' : w4.ownsRow w0.heap.size 9 1 v' (l0.length + 1) (encs Value.string l0 ++ [.string ⟨#[]⟩]) := (by simpa [encs] using Kd.own_of_R ho); have HOKG := Aside0.mk ho.1; clear ho hb4 hg hat; rcases hown'.2 with ⟨_, h0⟩ | ⟨g, cap, cur, rfl, hbg, hhg, hnc, hcm, hcs, htk⟩; (exact absurd h0 (Nat.succ_ne_zero _)); have HHG := Aside0.mk hhg; have HTK := Aside0.mk htk; have HCS := Aside0.mk hcs; clear hhg htk hcs hown')
          have hcl : cur.toList.length = cap := by simpa using HCS.out
          have HCP := Aside0.mk (copy_cells (j := j) (n := l0.length) (by simp [encs]) (show j ≤ l0.length by omega) HTK.out HHG.out)
          have HL := Aside0.mk (show ((encs Value.string l0).drop j).length = Nat.min (l0.length + 1 - j) (l0.length - j) from (show ((encs Value.string l0).drop j).length = l0.length - j by simp [encs]).trans (Nat.min_eq_right (by omega)).symm)
          have HFT := Aside0.mk (show j + 1 + ((encs Value.string l0).drop j).length ≤ cur.toList.length by rw [hcl]; simp [encs]; omega)
          have H1C := Aside0.mk (show ∀ v ∈ (encs Value.string l0).drop j, v.oneCell' = true from fun v hv => by
            have := List.mem_of_mem_drop hv
            simp only [encs, List.mem_map] at this
            obtain ⟨z, _, rfl⟩ := this
            rfl)
          have HS2 := Aside0.mk (show (Try.prog.info? 9).map (·.size) = some 1 by kernel_rfl)
          have HHT := Aside0.mk (show w4.heap[g]? = some (.cells cur.toList.toArray 9 (0, 0)) by simpa using HHG.out)
          have HOKg := Aside0.mk (show P0_ g ∨ w.heap.size ≤ g from HOKG.out g rfl)
          have HE0 := Aside0.mk (show l0.length ≤ j → ((encs Value.string l0).drop j).length = 0 from fun h => by simp [encs]; omega)
          have hj1 : (0 : Int) ≤ (j : Int) + 1 := by omega
          have hj2 : (j : Int) + 1 ≤ (l0.length : Int) + 1 := by omega
          have hj3 : (j : Int) ≤ (l0.length : Int) + 1 := by omega
          have hc2 : ¬ cap = j := by omega
          have hjt : ((j : Int) + 1).toNat = j + 1 := by omega
          have hc1 : ¬ cap = j + 1 := by omega
          have hjw : IntKind.i64.wrap ((j : Int) + 1) = (j : Int) + 1 := IntWalk.i64_in _ (by omega)
          go_region_law ((with_reducible refine step_copy_g rfl (.tmp 39) (.tmp 42) 34 34 rfl 9 Try.underlying34 HS2.out (some ⟨g, j + 1, none⟩) (some ⟨g, j, none⟩) (l0.length - j) (cap - (j + 1)) (l0.length + 1 - j) (cap - j) ?g4 ?g5 g (j + 1) cur.toList 9 ?g1 ((encs Value.string l0).drop j) HL.out ?g2 HFT.out H1C.out ?_); (case g4 => go_simp); (case g5 => go_simp); (case g1 => exact HHT.out); (case g2 => exact (fun _ => ⟨rfl, ⟨g, j, none⟩, rfl, HCP.out⟩)); intro w5 hg5 hgr5)
          clear hjw hjt
          have hspl : j < (splice cur.toList (j + 1) ((encs Value.string l0).drop j)).length := by
            have h9 : cur.size = cap := by simpa using hcl
            unfold splice
            simp [encs]; omega
          obtain ⟨⟨v5, hv5⟩, hf5⟩ := splice_cell hg5.out hspl
          have HG5 := Aside0.mk hg5.out
          have HGR5 := Aside0.mk (show w4.grownBy w5 (some g) from ⟨hgr5.os, hgr5.tape, hgr5.output, hgr5.size, hgr5.block⟩)
          clear hg5 hgr5
          go_wp2
          go_ret
          have hrow := insert_row (x := .string a1) hbg (show (encs Value.string l0).length = l0.length by simp [encs]) (show j ≤ l0.length by omega) hnc hcm HCS.out HTK.out HG5.out
          have e1 : encs Value.string (l0.take j ++ a1 :: l0.drop j) = (encs Value.string l0).take j ++ .string a1 :: (encs Value.string l0).drop j := by simp [encs]
          have e2 : (l0.take j ++ a1 :: l0.drop j).length = l0.length + 1 := by simp; omega
          refine ⟨_, rfl, ?_, ?_, ?_⟩
          · rw [HF.out, HIN.out]
            refine Kd.R_of_own ?_ (fun k hk => ?_)
            · rw [e1, e2]
              first | exact hrow | (rw [hc1] at hrow; exact hrow)
            · have hk' : g = k := by simpa [Value.ownBlock] using hk
              rw [← hk']; exact HOKg.out
          · exact (HB4.out.grown HGR5.out (by have := HB4.out.size; omega) (fun k e => by cases e; exact hbg)).setCell (p := ⟨g, j, none⟩) hbg _
          · refine ⟨by have h1 := HG4.out.size; have h2 := HGR5.out.size; simp; omega, fun i hi hni => ?_⟩
            have hne : i ≠ g := fun e => by
              rcases HOKg.out with h | h
              · exact hni (e ▸ h)
              · omega
            have h1 := HG4.out.block i (by omega) (fun e => hni (HP0.out i e.symm))
            have h2 := HGR5.out.block i (by have := HG4.out.size; omega) (fun e => hne (by injection e))
            have h3 := Below.heap_setCell w5 ⟨g, j, none⟩ (.string a1) i hne
            exact h3.trans (h2.trans h1)
    · have HP : Aside0 (posS l0 a1 = j) := ⟨takeWhile_atS (lessB · a1) l0 j (fun q hq hlt2 => HQ.out q hq hlt2) hj (fun h => absurd h hjl)⟩
      have HIN : Aside0 (insS l0 a1 = l0.take j ++ a1 :: l0.drop j) := ⟨by unfold insS; rw [HP.out, List.getElem?_eq_none (by omega)]; simp⟩
      have hjn : l0.length ≤ j := by omega
      go_wp2_with ((with_reducible refine gate_builtin (b := .append) (xs := #[.tmp 33, .tmp 34]) rfl ?_); at_builtin; refine Kd.R_append Kd.string (w0 := w0) w0.heap.size rfl (.tmp 33) (.tmp 34) 34 9 (.string ⟨#[]⟩) 16 rfl Try.underlying34 info9 rfl (by decide) (by omega) (.slice A1 l0.length c1) l0 ⟨#[]⟩ [.string ⟨#[]⟩] (fun k_ => (P0_ k_ ∨ w.heap.size ≤ k_)) (fun _ => False) rfl rfl ?aP (fun _ hk => hk.elim) ?aF ?aO ?aB ?aS ?aL ?_; (case aP => exact rfl); (case aB => exact HB.out); (case aF => exact (fun _ hk => .inr hk)); (case aO => exact HO.out); (case aS => exact hbs); (case aL => omega); intro v' w4 ho hb4 hg hat; have HO4 := Aside0.mk ho; have HB4 := Aside0.mk hb4; have HG4 := Aside0.mk hg; have hown' : w4.ownsRow w0.heap.size 9 1 v' (l0.length + 1) (encs Value.string l0 ++ [.string ⟨#[]⟩]) := (by simpa [encs] using Kd.own_of_R ho); have HOKG := Aside0.mk ho.1; clear ho hb4 hg hat; rcases hown'.2 with ⟨_, h0⟩ | ⟨g, cap, cur, rfl, hbg, hhg, hnc, hcm, hcs, htk⟩; (exact absurd h0 (Nat.succ_ne_zero _)); have HHG := Aside0.mk hhg; have HTK := Aside0.mk htk; have HCS := Aside0.mk hcs; clear hhg htk hcs hown')
      have hcl : cur.toList.length = cap := by simpa using HCS.out
      have HCP := Aside0.mk (copy_cells (j := j) (n := l0.length) (by simp [encs]) (show j ≤ l0.length by omega) HTK.out HHG.out)
      have HL := Aside0.mk (show ((encs Value.string l0).drop j).length = Nat.min (l0.length + 1 - j) (l0.length - j) from (show ((encs Value.string l0).drop j).length = l0.length - j by simp [encs]).trans (Nat.min_eq_right (by omega)).symm)
      have HFT := Aside0.mk (show j + 1 + ((encs Value.string l0).drop j).length ≤ cur.toList.length by rw [hcl]; simp [encs]; omega)
      have H1C := Aside0.mk (show ∀ v ∈ (encs Value.string l0).drop j, v.oneCell' = true from fun v hv => by
        have := List.mem_of_mem_drop hv
        simp only [encs, List.mem_map] at this
        obtain ⟨z, _, rfl⟩ := this
        rfl)
      have HS2 := Aside0.mk (show (Try.prog.info? 9).map (·.size) = some 1 by kernel_rfl)
      have HHT := Aside0.mk (show w4.heap[g]? = some (.cells cur.toList.toArray 9 (0, 0)) by simpa using HHG.out)
      have HOKg := Aside0.mk (show P0_ g ∨ w.heap.size ≤ g from HOKG.out g rfl)
      have HE0 := Aside0.mk (show l0.length ≤ j → ((encs Value.string l0).drop j).length = 0 from fun h => by simp [encs]; omega)
      have hj1 : (0 : Int) ≤ (j : Int) + 1 := by omega
      have hj2 : (j : Int) + 1 ≤ (l0.length : Int) + 1 := by omega
      have hj3 : (j : Int) ≤ (l0.length : Int) + 1 := by omega
      have hc2 : ¬ cap = j := by omega
      have hjt : ((j : Int) + 1).toNat = j + 1 := by omega
      by_cases hc1 : cap = j + 1
      · have hjw : IntKind.i64.wrap ((j : Int) + 1) = (j : Int) + 1 := IntWalk.i64_in _ (by omega)
        go_region_law ((with_reducible refine step_copy_g rfl (.tmp 39) (.tmp 42) 34 34 rfl 9 Try.underlying34 HS2.out (some ⟨g, 0, none⟩) (some ⟨g, j, none⟩) (l0.length - j) (cap - (j + 1)) (l0.length + 1 - j) (cap - j) ?g4 ?g5 g (j + 1) cur.toList 9 ?g1 ((encs Value.string l0).drop j) HL.out ?g2 HFT.out H1C.out ?_); (case g4 => go_simp); (case g5 => go_simp); (case g1 => exact HHT.out); (case g2 => exact (fun h_ => absurd h_ (by have h7 := HE0.out (by omega); rw [h7]; omega))); intro w5 hg5 hgr5)
        clear hjw hjt
        have hspl : j < (splice cur.toList (j + 1) ((encs Value.string l0).drop j)).length := by
          have h9 : cur.size = cap := by simpa using hcl
          unfold splice
          simp [encs]; omega
        obtain ⟨⟨v5, hv5⟩, hf5⟩ := splice_cell hg5.out hspl
        have HG5 := Aside0.mk hg5.out
        have HGR5 := Aside0.mk (show w4.grownBy w5 (some g) from ⟨hgr5.os, hgr5.tape, hgr5.output, hgr5.size, hgr5.block⟩)
        clear hg5 hgr5
        go_wp2
        go_ret
        have hrow := insert_row (x := .string a1) hbg (show (encs Value.string l0).length = l0.length by simp [encs]) (show j ≤ l0.length by omega) hnc hcm HCS.out HTK.out HG5.out
        have e1 : encs Value.string (l0.take j ++ a1 :: l0.drop j) = (encs Value.string l0).take j ++ .string a1 :: (encs Value.string l0).drop j := by simp [encs]
        have e2 : (l0.take j ++ a1 :: l0.drop j).length = l0.length + 1 := by simp; omega
        refine ⟨_, rfl, ?_, ?_, ?_⟩
        · rw [HF.out, HIN.out]
          refine Kd.R_of_own ?_ (fun k hk => ?_)
          · rw [e1, e2]
            first | exact hrow | (rw [hc1] at hrow; exact hrow)
          · have hk' : g = k := by simpa [Value.ownBlock] using hk
            rw [← hk']; exact HOKg.out
        · exact (HB4.out.grown HGR5.out (by have := HB4.out.size; omega) (fun k e => by cases e; exact hbg)).setCell (p := ⟨g, j, none⟩) hbg _
        · refine ⟨by have h1 := HG4.out.size; have h2 := HGR5.out.size; simp; omega, fun i hi hni => ?_⟩
          have hne : i ≠ g := fun e => by
            rcases HOKg.out with h | h
            · exact hni (e ▸ h)
            · omega
          have h1 := HG4.out.block i (by omega) (fun e => hni (HP0.out i e.symm))
          have h2 := HGR5.out.block i (by have := HG4.out.size; omega) (fun e => hne (by injection e))
          have h3 := Below.heap_setCell w5 ⟨g, j, none⟩ (.string a1) i hne
          exact h3.trans (h2.trans h1)
      · have hjw : IntKind.i64.wrap ((j : Int) + 1) = (j : Int) + 1 := IntWalk.i64_in _ (by omega)
        go_region_law ((with_reducible refine step_copy_g rfl (.tmp 39) (.tmp 42) 34 34 rfl 9 Try.underlying34 HS2.out (some ⟨g, j + 1, none⟩) (some ⟨g, j, none⟩) (l0.length - j) (cap - (j + 1)) (l0.length + 1 - j) (cap - j) ?g4 ?g5 g (j + 1) cur.toList 9 ?g1 ((encs Value.string l0).drop j) HL.out ?g2 HFT.out H1C.out ?_); (case g4 => go_simp); (case g5 => go_simp); (case g1 => exact HHT.out); (case g2 => exact (fun _ => ⟨rfl, ⟨g, j, none⟩, rfl, HCP.out⟩)); intro w5 hg5 hgr5)
        clear hjw hjt
        have hspl : j < (splice cur.toList (j + 1) ((encs Value.string l0).drop j)).length := by
          have h9 : cur.size = cap := by simpa using hcl
          unfold splice
          simp [encs]; omega
        obtain ⟨⟨v5, hv5⟩, hf5⟩ := splice_cell hg5.out hspl
        have HG5 := Aside0.mk hg5.out
        have HGR5 := Aside0.mk (show w4.grownBy w5 (some g) from ⟨hgr5.os, hgr5.tape, hgr5.output, hgr5.size, hgr5.block⟩)
        clear hg5 hgr5
        go_wp2
        go_ret
        have hrow := insert_row (x := .string a1) hbg (show (encs Value.string l0).length = l0.length by simp [encs]) (show j ≤ l0.length by omega) hnc hcm HCS.out HTK.out HG5.out
        have e1 : encs Value.string (l0.take j ++ a1 :: l0.drop j) = (encs Value.string l0).take j ++ .string a1 :: (encs Value.string l0).drop j := by simp [encs]
        have e2 : (l0.take j ++ a1 :: l0.drop j).length = l0.length + 1 := by simp; omega
        refine ⟨_, rfl, ?_, ?_, ?_⟩
        · rw [HF.out, HIN.out]
          refine Kd.R_of_own ?_ (fun k hk => ?_)
          · rw [e1, e2]
            first | exact hrow | (rw [hc1] at hrow; exact hrow)
          · have hk' : g = k := by simpa [Value.ownBlock] using hk
            rw [← hk']; exact HOKg.out
        · exact (HB4.out.grown HGR5.out (by have := HB4.out.size; omega) (fun k e => by cases e; exact hbg)).setCell (p := ⟨g, j, none⟩) hbg _
        · refine ⟨by have h1 := HG4.out.size; have h2 := HGR5.out.size; simp; omega, fun i hi hni => ?_⟩
          have hne : i ≠ g := fun e => by
            rcases HOKg.out with h | h
            · exact hni (e ▸ h)
            · omega
          have h1 := HG4.out.block i (by omega) (fun e => hni (HP0.out i e.symm))
          have h2 := HGR5.out.block i (by have := HG4.out.size; omega) (fun e => hne (by injection e))
          have h3 := Below.heap_setCell w5 ⟨g, j, none⟩ (.string a1) i hne
          exact h3.trans (h2.trans h1)

end Go.Proofs.Ytaofommgdgmncaa.Pr
