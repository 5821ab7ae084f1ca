-- Written by a program of this session (the kit's print with mkprint.py's replacements). Lean checks it.
import Derived.Test.YtmopcjebjbdapaaPr0
import Derived.Test.YtmopcjebjbdapaaPr2
import Derived.Test.YtmopcjebjbdapaaPr4
import Derived.Test.YtmopcjebjbdapaaPr6
import Derived.Test.YtmopcjebjbdapaaIter
namespace Go.Proofs.Ytmopcjebjbdapaa.Pr
open Go.RowKit Go.Proofs.YtmopcjebjbdapaaW.PrintWords Go.Proofs.YtmopcjebjbdapaaW.PrintLast Go.Proofs.YtmopcjebjbdapaaW.PrintMore
attribute [local go_sem] max2_int min2_int max_two min_two max_three min_three max_four min_four   -- for this text's walks alone
set_option linter.unusedVariables false
set_option linter.unusedSimpArgs false

-- STUBBED 34
/-! ### bitset_Minimal: function 34: by hand -/
open Go.Proofs.Ytmopcjebjbdapaa.Iter

/-! ### what the three functions tell -/
def subB (a b : Int) : Bool := Go.bits .andNot .u64 a b == 0
def smallestB (l : List Int) (s : Int) : Bool := l.all fun t => t == s || !subB t s
def beforeB (a b : Int) : Bool := if ((elemsTo a 64).length : Int) = (elemsTo b 64).length then decide (a < b) else decide (((elemsTo a 64).length : Int) < (elemsTo b 64).length)
def posOf (out : List Int) (s : Int) : Nat := (out.takeWhile (beforeB · s)).length
def insL (out : List Int) (s : Int) : List Int := if out[posOf out s]? = some s then out else out.take (posOf out s) ++ s :: out.drop (posOf out s)
def stepL (l : List Int) (out : List Int) (s : Int) : List Int := if smallestB l s then insL out s else out
def minimalL (l : List Int) : List Int := l.foldl (stepL l) []
def bitset_Minimal.f (l0 : List Int) : Option (List Int) := if l0.length ≤ 1099511627776 then some (minimalL l0) else none

theorem before_f (a b : Int) : bitset_before.f a b = some (beforeB a b) := by
  simp only [bitset_before.f, bitset_Len.f, Option.bind_some, beforeB]
  split <;> rfl
theorem smallest_l0 (s : Int) (l : List Int) (hl : l.length ≤ 1099511627776) : ∀ (d k i : Nat), i ≤ l.length → l.length - i = d → d < k →
    bitset_smallest.l0 k s l (l.length : Int) (i : Int) = some ((l.drop i).all fun t => t == s || !subB t s) := by
  intro d
  induction d with
  | zero =>
    intro k i hi hd hk
    obtain ⟨k, rfl⟩ : ∃ m, k = m + 1 := ⟨k - 1, by omega⟩
    simp only [bitset_smallest.l0]
    rw [if_neg (by omega), List.drop_of_length_le (by omega)]
    rfl
  | succ d ih =>
    intro k i hi hd hk
    obtain ⟨k, rfl⟩ : ∃ m, k = m + 1 := ⟨k - 1, by omega⟩
    have hlt : i < l.length := by omega
    have hrd : rd l (i : Int) = l[i] := by simp [rd, hlt]
    have hw : wrap64 ((i : Int) + 1) = ((i + 1 : Nat) : Int) := by unfold wrap64; omega
    have hdr : l.drop i = l[i] :: l.drop (i + 1) := List.drop_eq_getElem_cons hlt
    simp only [bitset_smallest.l0]
    rw [if_pos (by omega), if_pos (by omega), if_pos (by omega), hw, hrd, ih k (i + 1) (by omega) (by omega) (by omega), hdr]
    simp only [bitset_Subset.f, Option.bind_some, List.all_cons]
    by_cases e : l[i] = s
    · rw [if_pos e]; simp [e]
    · rw [if_neg e]
      have e' : (l[i] == s) = false := by simpa using e
      rw [e']
      cases hb : (Go.bits .andNot .u64 l[i] s == 0) with
      | true => simp [subB, hb]
      | false => simp [subB, hb]
theorem smallest_f (l : List Int) (s : Int) (hl : l.length ≤ 1099511627776) : bitset_smallest.f (l.length + 1) l s = some (smallestB l s) := by
  have := smallest_l0 s l hl l.length (l.length + 1) 0 (by omega) (by omega) (by omega)
  simpa [bitset_smallest.f, smallestB] using this
theorem takeWhile_at {α : Type} (p : α → Bool) : ∀ (l : List α) (j : Nat), (∀ q, (h : q < l.length) → q < j → p l[q] = true) → j ≤ l.length → (∀ h : j < l.length, p l[j] = false) → (l.takeWhile p).length = j
  | [], j, _, h2, _ => by simp at h2; simp [h2]
  | x :: l, 0, _, _, h3 => by
    have := h3 (by simp)
    simp at this
    simp [this]
  | x :: l, j + 1, h1, h2, h3 => by
    have hx : p x = true := h1 0 (by simp) (by omega)
    rw [List.takeWhile_cons, if_pos hx, List.length_cons, takeWhile_at p l j (fun q hq hj => h1 (q + 1) (by simp; omega) (by omega)) (by simp at h2; omega) (fun h => h3 (by simp; omega))]
theorem insL_len (out : List Int) (s : Int) : (insL out s).length ≤ out.length + 1 := by
  unfold insL
  split
  · omega
  · simp; omega
theorem minimalTo_len (l : List Int) : ∀ (m : List Int) (out : List Int), (m.foldl (stepL l) out).length ≤ out.length + m.length
  | [], out => by simp
  | s :: m, out => by
    rw [List.foldl_cons]
    refine Nat.le_trans (minimalTo_len l m _) ?_
    have : (stepL l out s).length ≤ out.length + 1 := by
      unfold stepL
      split
      · exact insL_len out s
      · omega
    simp; omega

set_option maxHeartbeats 8000000 in
set_option maxRecDepth 100000 in
theorem bitset_Minimal.calls (A0 : Option Addr) (c0 : Nat) (l0 : List Int) (r : List Int) (w : World) (hr0 : Kd.C (Kd.int .u64) w A0 l0.length l0) (hc0 : l0.length ≤ c0) (h : bitset_Minimal.f l0 = some r) :
    Calls Try.prog 34 #[.slice A0 l0.length c0] w fun e w' => ∃ v0_ : Value, e = .returned (v0_) ∧ Kd.R (Kd.int .u64) 22 w' w.heap.size (fun _ => True) v0_ r ∧ Below w.heap.size w w' := by
  have HR0 := Aside0.mk hr0
  have HC0 := Aside0.mk hc0
  clear hr0 hc0
  have hle : l0.length ≤ 1099511627776 := by
    unfold bitset_Minimal.f at h
    split at h
    · assumption
    · cases h
  have HF : Aside0 (r = minimalL l0) := ⟨by
    unfold bitset_Minimal.f at h
    rw [if_pos hle] at h
    exact (Option.some.inj h).symm⟩
  clear h
  obtain ⟨i0, hi, hz0, hz1, hz2⟩ := info_parts info22
  have HI := Aside0.mk hi
  have HZ0 := Aside0.mk hz0
  have HZ1 := Aside0.mk hz1
  have HZ2 := Aside0.mk hz2
  clear hi hz0 hz1 hz2
  go_enter Try.func34, Try.ntmps34
  go_wp2
  go_loopw [3, 9] (fun v3 v9 wr => ∃ (k : Nat) (out : List Int), v9 = .int .i64 k ∧ k ≤ l0.length ∧ Aside0 (out = (l0.take k).foldl (stepL l0) []) ∧ Aside0 (Kd.R (Kd.int .u64) 22 wr w.heap.size (fun _ => True) v3 out) ∧ Aside0 (Below w.heap.size w wr)) (fun _ v9 _ => l0.length - (intOf v9).toNat)
  case atStart => exact ⟨0, [], rfl, Nat.zero_le _, ⟨rfl⟩, ⟨Kd.R_nil _ _ _ _ _⟩, ⟨Below.refl _ _⟩⟩
  case round =>
    obtain ⟨k, out, rfl, hk, HE, HO, HB⟩ := hrel
    obtain ⟨A1, c1, rfl, hle1, _⟩ := Kd.R_reads HO.out
    have holen : out.length ≤ k := by
      have := minimalTo_len l0 (l0.take k) []
      rw [← HE.out] at this
      simp at this
      omega
    by_cases hlt : k < l0.length
    · obtain ⟨ad, e1, hx⟩ := Kd.at_int HR0.out (k : Int) (by omega) (by omega)
      cases e1
      replace hx := (HB.out.cell (World.block_lt_of_cell? w _ hx)).trans hx
      rw [Int.toNat_natCast] at hx
      have hstep : Aside0 ((l0.take (k + 1)).foldl (stepL l0) [] = stepL l0 out (rd l0 (k : Int))) := ⟨by
        rw [HE.out, List.take_succ_eq_append_getElem hlt, List.foldl_append]
        simp [rd, hlt]⟩
      generalize rd l0 (k : Int) = s at hx hstep
      cases hs : smallestB l0 s with
      | false =>
        have HS := Aside0.mk (smallest_f l0 s hle)
        rw [hs] at HS
        have HN : Aside0 (stepL l0 out s = out) := ⟨by unfold stepL; rw [hs]; rfl⟩
        clear hs
        go_wp2_with (go_at_call 38; (with_reducible refine (bitset_smallest.calls (l0.length + 1) _ _ l0 s false _ (Kd.C_below HR0.out HB.out) HC0.out HS.out).mono ?_); rintro e w' ⟨rfl, ⟨nd, rfl⟩⟩)
        go_roundw
        case rel => exact ⟨k + 1, out, by go_num, by omega, ⟨by rw [hstep.out]; exact HN.out.symm⟩, ⟨Kd.R_drewN HO.out _⟩, ⟨pw_below_drewN HB.out _⟩⟩
        case measure => simp [intOf]; omega
      | true =>
        have HS := Aside0.mk (smallest_f l0 s hle)
        rw [hs] at HS
        have HN : Aside0 (stepL l0 out s = insL out s) := ⟨by unfold stepL; rw [hs]; rfl⟩
        clear hs
        go_wp2_with (go_at_call 38; (with_reducible refine (bitset_smallest.calls (l0.length + 1) _ _ l0 s true _ (Kd.C_below HR0.out HB.out) HC0.out HS.out).mono ?_); rintro e w' ⟨rfl, ⟨nd, rfl⟩⟩)
        have HO1 := Aside0.mk (Kd.R_drewN HO.out nd)
        have HB1 := Aside0.mk (pw_below_drewN HB.out nd)
        clear HO HB hx hle1
        obtain ⟨wo, hwo⟩ : ∃ wo : World, wo = wr.drewN nd := ⟨_, rfl⟩
        rw [← hwo] at HO1 HB1 ⊢
        clear hwo
        go_loopw [6] (fun v6 wi => ∃ j : Nat, v6 = .int .i64 j ∧ j ≤ out.length ∧ Aside0 (∀ q, (h : q < out.length) → q < j → beforeB out[q] s = true) ∧ Aside0 (Kd.R (Kd.int .u64) 22 wi w.heap.size (fun _ => True) (.slice A1 out.length c1) out) ∧ Aside0 (Below w.heap.size w wi)) (fun v6 _ => out.length - (intOf v6).toNat)
        case atStart => exact ⟨0, rfl, Nat.zero_le _, ⟨fun _ _ h => absurd h (Nat.not_lt_zero _)⟩, HO1, HB1⟩
        case round =>
          clear HO1 HB1
          obtain ⟨j, rfl, hj, HQ, HO, HB⟩ := hrel
          by_cases hjl : j < out.length
          · obtain ⟨ad2, e2, hx2⟩ := Kd.at_int (Kd.R_reads' HO.out).2.2 (j : Int) (by omega) (by omega)
            cases e2
            rw [Int.toNat_natCast] at hx2
            have hrd : rd out (j : Int) = out[j] := by simp [rd, hjl]
            rw [hrd] at hx2
            have HBF := Aside0.mk (before_f out[j] s)
            obtain ⟨x, hxo⟩ : ∃ x, x = out[j] := ⟨_, rfl⟩
            rw [← hxo] at hx2 HBF
            have HX := Aside0.mk hxo
            clear hxo hrd
            cases hb : beforeB x s with
            | true =>
              rw [hb] at HBF
              have HB2 := Aside0.mk hb
              clear hb
              go_wp2_with (go_at_call 39; (with_reducible refine (bitset_before.calls x s true _ HBF.out).mono ?_); rintro e w3 ⟨rfl, hbw⟩)
              go_roundw
              case rel => exact ⟨j + 1, by go_num, by omega, ⟨fun q hq hlt2 => by
                by_cases e : q = j
                · subst e; rw [← HX.out]; exact HB2.out
                · exact HQ.out q hq (by omega)⟩, ⟨Kd.R_below HO.out hbw⟩, ⟨below_step HB.out hbw⟩⟩
              case measure => simp [intOf]; omega
            | false =>
              rw [hb] at HBF
              have HP : Aside0 (posOf out s = j) := ⟨takeWhile_at _ out j (fun q hq hlt2 => HQ.out q hq hlt2) (by omega) (fun _ => by rw [← HX.out]; exact hb)⟩
              clear hb
              have hce : ∀ w3, Below wr.heap.size wr w3 → w3.cell? (ad2.add j) = some (.int .u64 x) := fun w3 hbw => (hbw.cell (World.block_lt_of_cell? wr _ hx2)).trans hx2
              have HCE := Aside0.mk hce
              clear hce
              by_cases hxs : x = s
              · have HIN : Aside0 (insL out s = out) := ⟨by unfold insL; rw [HP.out, List.getElem?_eq_getElem hjl, ← HX.out, hxs, if_pos rfl]⟩
                have hbeq : (x == s) = true := beq_iff_eq.mpr hxs
                have HXS := Aside0.mk hxs
                clear hxs
                go_wp2_with (go_at_call 39; (with_reducible refine (bitset_before.calls x s false _ HBF.out).mono ?_); rintro e w3 ⟨rfl, hbw⟩; have hx3 := HCE.out w3 hbw; have HBW := Aside0.mk hbw; clear hbw)
                go_roundw
                case rel => exact ⟨k + 1, out, by go_num, by omega, ⟨by rw [hstep.out, HN.out, HIN.out]⟩, ⟨Kd.R_below HO.out HBW.out⟩, ⟨below_step HB.out HBW.out⟩⟩
                case measure => simp [intOf]; omega
              · have HIN : Aside0 (insL out s = out.take j ++ s :: out.drop j) := ⟨by unfold insL; rw [HP.out, List.getElem?_eq_getElem hjl, ← HX.out, if_neg (fun e => hxs (Option.some.inj e))]⟩
                have hbeq : (x == s) = false := beq_eq_false_iff_ne.mpr hxs
                have HXS := Aside0.mk hxs
                clear hxs
                go_wp2_with (first | (go_at_call 39; (with_reducible refine (bitset_before.calls x s false _ HBF.out).mono ?_); rintro e w3 ⟨rfl, hbw⟩; have hx3 := HCE.out w3 hbw; have HBW := Aside0.mk hbw; clear hbw) | (at_builtin; go_loud (refine wpList_append_own _ rfl (.tmp 43) (.tmp 44) 38 rfl w.heap.size 22 i0 (.int .u64 0) 1 8 Try.underlying38 HI.out HZ0.out HZ1.out HZ2.out rfl (by decide) (.slice (some ad2) out.length c1) out.length _ rfl ((Kd.own_of_R (Kd.R_below HO.out HBW.out)).alloc _) ⟨w3.heap.size, 0, none⟩ 1 1 [.int .u64 0] rfl rfl (cell_one_new _ _ _) (by simp [Value.oneCell']) (by unfold maxLen; omega) (by omega) ?cB ?_); (case cB => have := HB.out.size; have := HBW.out.size; simp; omega); intro v' w4 hown' hgrow _; rcases hown'.2 with ⟨_, h0⟩ | ⟨g, cap, cur, rfl, hbg, hhg, hnc, hcm, hcs, htk⟩; (exact absurd h0 (Nat.succ_ne_zero _)); have HHG := Aside0.mk hhg; have HTK := Aside0.mk htk; have HCS := Aside0.mk hcs; clear hhg htk hcs hown'))
                have hB4 : Below w.heap.size w w4 := (below_alloc (below_step HB.out HBW.out) _).grown hgrow (by have := HB.out.size; have := HBW.out.size; simp; omega) (fun q e => own_base (Kd.own_of_R HO.out) q e)
                have HB4 := Aside0.mk hB4
                clear hB4 hgrow hx3
                have hcl : cur.toList.length = cap := by simpa using HCS.out
                have HCP := Aside0.mk (copy_cells (j := j) (n := out.length) (by simp [encs]) (show j ≤ out.length by omega) HTK.out HHG.out)
                have HL := Aside0.mk (show ((encs (Value.int .u64) out).drop j).length = Nat.min (out.length + 1 - j) (out.length - j) from (show ((encs (Value.int .u64) out).drop j).length = out.length - j by simp [encs]).trans (Nat.min_eq_right (by omega)).symm)
                have HFT := Aside0.mk (show j + 1 + ((encs (Value.int .u64) out).drop j).length ≤ cur.toList.length by rw [hcl]; simp [encs]; omega)
                have H1C := Aside0.mk (show ∀ v ∈ (encs (Value.int .u64) out).drop j, v.oneCell' = true from fun v hv => by
                  have := List.mem_of_mem_drop hv
                  simp only [encs, List.mem_map] at this
                  obtain ⟨z, _, rfl⟩ := this
                  rfl)
                have HS2 := Aside0.mk (show (Try.prog.info? 22).map (·.size) = some 1 by rw [HI.out]; simp [HZ1.out])
                have HHT := Aside0.mk (show w4.heap[g]? = some (.cells cur.toList.toArray 22 (0, 0)) by simpa using HHG.out)
                have hj1 : (0 : Int) ≤ (j : Int) + 1 := by omega
                have hj2 : (j : Int) + 1 ≤ (out.length : Int) + 1 := by omega
                have hj3 : (j : Int) ≤ (out.length : Int) + 1 := by omega
                have hc1 : ¬ cap = j + 1 := by omega
                have hc2 : ¬ cap = j := by omega
                have hjt : ((j : Int) + 1).toNat = j + 1 := by omega
                have hjw : IntKind.i64.wrap ((j : Int) + 1) = (j : Int) + 1 := IntWalk.i64_in _ (by omega)
                go_region_law ((with_reducible refine step_copy_splice rfl (.tmp 49) (.tmp 52) 38 38 rfl 22 Try.underlying38 HS2.out (some ⟨g, j + 1, none⟩) (some ⟨g, j, none⟩) (out.length - j) (cap - (j + 1)) (out.length + 1 - j) (cap - j) ?g4 ?g5 g (j + 1) cur.toList 22 ?g1 ((encs (Value.int .u64) out).drop j) HL.out ?g2 HFT.out H1C.out w.heap.size w ?g3 hbg ?_); (case g4 => go_simp); (case g5 => go_simp); (case g1 => exact HHT.out); (case g2 => exact (fun _ => ⟨rfl, ⟨g, j, none⟩, rfl, HCP.out⟩)); (case g3 => exact HB4.out.drew); intro w5 hg5 hb5)
                clear hjw hjt
                have hspl : j < (splice cur.toList (j + 1) ((encs (Value.int .u64) out).drop j)).length := by
                  have h9 : cur.size = cap := by simpa using hcl
                  unfold splice
                  simp [encs]; omega
                obtain ⟨⟨v5, hv5⟩, hf5⟩ := splice_cell hg5.out hspl
                have HG5 := Aside0.mk hg5.out
                have HB5 := Aside0.mk hb5
                clear hg5 hb5
                go_wp2
                go_roundw
                case rel =>
                  refine ⟨k + 1, out.take j ++ s :: out.drop j, by go_num, by omega, ⟨by rw [hstep.out, HN.out, HIN.out]⟩, ⟨Kd.R_of_own ?_ (fun _ _ => trivial)⟩, ⟨HB5.out.setCell (p := ⟨g, j, none⟩) hbg _⟩⟩
                  have hrow := insert_row (x := .int .u64 s) hbg (show (encs (Value.int .u64) out).length = out.length by simp [encs]) (show j ≤ out.length by omega) hnc hcm HCS.out HTK.out HG5.out
                  have e1 : encs (Value.int .u64) (out.take j ++ s :: out.drop j) = (encs (Value.int .u64) out).take j ++ .int .u64 s :: (encs (Value.int .u64) out).drop j := by simp [encs]
                  have e2 : (out.take j ++ s :: out.drop j).length = out.length + 1 := by simp; omega
                  rw [e1, e2]
                  first | exact hrow | (rw [hc1] at hrow; exact hrow)
                case measure => simp [intOf]; omega
          · have HP : Aside0 (posOf out s = j) := ⟨takeWhile_at _ out j (fun q hq hlt2 => HQ.out q hq hlt2) hj (fun h => absurd h hjl)⟩
            have HIN : Aside0 (insL out s = out.take j ++ s :: out.drop j) := ⟨by unfold insL; rw [HP.out, List.getElem?_eq_none (by omega), if_neg (by simp)]⟩
            have hjn : out.length ≤ j := by omega
            go_wp2_with (at_builtin; refine wpList_append_own _ rfl (.tmp 43) (.tmp 44) 38 rfl w.heap.size 22 i0 (.int .u64 0) 1 8 Try.underlying38 HI.out HZ0.out HZ1.out HZ2.out rfl (by decide) (.slice A1 out.length c1) out.length _ rfl ((Kd.own_of_R HO.out).alloc _) ⟨wr.heap.size, 0, none⟩ 1 1 [.int .u64 0] rfl rfl (cell_one_new _ _ _) (by simp [Value.oneCell']) (by unfold maxLen; omega) (by omega) ?cB ?_; (case cB => have := HB.out.size; simp; omega); intro v' w4 hown' hgrow _; rcases hown'.2 with ⟨_, h0⟩ | ⟨g, cap, cur, rfl, hbg, hhg, hnc, hcm, hcs, htk⟩; (exact absurd h0 (Nat.succ_ne_zero _)); have HHG := Aside0.mk hhg; have HTK := Aside0.mk htk; have HCS := Aside0.mk hcs; clear hhg htk hcs hown')
            have hB4 : Below w.heap.size w w4 := (below_alloc HB.out _).grown hgrow (by have := HB.out.size; simp; omega) (fun q e => own_base (Kd.own_of_R HO.out) q e)
            have HB4 := Aside0.mk hB4
            clear hB4 hgrow
            have hcl : cur.toList.length = cap := by simpa using HCS.out
            have HCP := Aside0.mk (copy_cells (j := j) (n := out.length) (by simp [encs]) (show j ≤ out.length by omega) HTK.out HHG.out)
            have HL := Aside0.mk (show ((encs (Value.int .u64) out).drop j).length = Nat.min (out.length + 1 - j) (out.length - j) from (show ((encs (Value.int .u64) out).drop j).length = out.length - j by simp [encs]).trans (Nat.min_eq_right (by omega)).symm)
            have HFT := Aside0.mk (show j + 1 + ((encs (Value.int .u64) out).drop j).length ≤ cur.toList.length by rw [hcl]; simp [encs]; omega)
            have H1C := Aside0.mk (show ∀ v ∈ (encs (Value.int .u64) out).drop j, v.oneCell' = true from fun v hv => by
              have := List.mem_of_mem_drop hv
              simp only [encs, List.mem_map] at this
              obtain ⟨z, _, rfl⟩ := this
              rfl)
            have HS2 := Aside0.mk (show (Try.prog.info? 22).map (·.size) = some 1 by rw [HI.out]; simp [HZ1.out])
            have HHT := Aside0.mk (show w4.heap[g]? = some (.cells cur.toList.toArray 22 (0, 0)) by simpa using HHG.out)
            have hj1 : (0 : Int) ≤ (j : Int) + 1 := by omega
            have hj2 : (j : Int) + 1 ≤ (out.length : Int) + 1 := by omega
            have hj3 : (j : Int) ≤ (out.length : Int) + 1 := by omega
            have hc2 : ¬ cap = j := by omega
            have hjt : ((j : Int) + 1).toNat = j + 1 := by omega
            have HE0 := Aside0.mk (show ((encs (Value.int .u64) out).drop j).length = 0 by simp [encs]; omega)
            by_cases hc1 : cap = j + 1
            · have hjw : IntKind.i64.wrap ((j : Int) + 1) = (j : Int) + 1 := IntWalk.i64_in _ (by omega)
              go_region_law ((with_reducible refine step_copy_splice rfl (.tmp 49) (.tmp 52) 38 38 rfl 22 Try.underlying38 HS2.out (some ⟨g, 0, none⟩) (some ⟨g, j, none⟩) (out.length - j) (cap - (j + 1)) (out.length + 1 - j) (cap - j) ?g4 ?g5 g (j + 1) cur.toList 22 ?g1 ((encs (Value.int .u64) out).drop j) HL.out ?g2 HFT.out H1C.out w.heap.size w ?g3 hbg ?_); (case g4 => go_simp); (case g5 => go_simp); (case g1 => exact HHT.out); (case g2 => exact (fun h_ => absurd h_ (by have h7 : ((encs (Value.int .u64) out).drop j).length = 0 := HE0.out; rw [h7]; omega))); (case g3 => exact HB4.out.drew); intro w5 hg5 hb5)
              clear hjw hjt
              have hspl : j < (splice cur.toList (j + 1) ((encs (Value.int .u64) out).drop j)).length := by
                have h9 : cur.size = cap := by simpa using hcl
                unfold splice
                simp [encs]; omega
              obtain ⟨⟨v5, hv5⟩, hf5⟩ := splice_cell hg5.out hspl
              have HG5 := Aside0.mk hg5.out
              have HB5 := Aside0.mk hb5
              clear hg5 hb5
              go_wp2
              go_roundw
              case rel =>
                refine ⟨k + 1, out.take j ++ s :: out.drop j, by go_num, by omega, ⟨by rw [hstep.out, HN.out, HIN.out]⟩, ⟨Kd.R_of_own ?_ (fun _ _ => trivial)⟩, ⟨HB5.out.setCell (p := ⟨g, j, none⟩) hbg _⟩⟩
                have hrow := insert_row (x := .int .u64 s) hbg (show (encs (Value.int .u64) out).length = out.length by simp [encs]) (show j ≤ out.length by omega) hnc hcm HCS.out HTK.out HG5.out
                have e1 : encs (Value.int .u64) (out.take j ++ s :: out.drop j) = (encs (Value.int .u64) out).take j ++ .int .u64 s :: (encs (Value.int .u64) out).drop j := by simp [encs]
                have e2 : (out.take j ++ s :: out.drop j).length = out.length + 1 := by simp; omega
                rw [e1, e2]
                first | exact hrow | (rw [hc1] at hrow; exact hrow)
              case measure => simp [intOf]; omega
            · have hjw : IntKind.i64.wrap ((j : Int) + 1) = (j : Int) + 1 := IntWalk.i64_in _ (by omega)
              go_region_law ((with_reducible refine step_copy_splice rfl (.tmp 49) (.tmp 52) 38 38 rfl 22 Try.underlying38 HS2.out (some ⟨g, j + 1, none⟩) (some ⟨g, j, none⟩) (out.length - j) (cap - (j + 1)) (out.length + 1 - j) (cap - j) ?g4 ?g5 g (j + 1) cur.toList 22 ?g1 ((encs (Value.int .u64) out).drop j) HL.out ?g2 HFT.out H1C.out w.heap.size w ?g3 hbg ?_); (case g4 => go_simp); (case g5 => go_simp); (case g1 => exact HHT.out); (case g2 => exact (fun _ => ⟨rfl, ⟨g, j, none⟩, rfl, HCP.out⟩)); (case g3 => exact HB4.out.drew); intro w5 hg5 hb5)
              clear hjw hjt
              have hspl : j < (splice cur.toList (j + 1) ((encs (Value.int .u64) out).drop j)).length := by
                have h9 : cur.size = cap := by simpa using hcl
                unfold splice
                simp [encs]; omega
              obtain ⟨⟨v5, hv5⟩, hf5⟩ := splice_cell hg5.out hspl
              have HG5 := Aside0.mk hg5.out
              have HB5 := Aside0.mk hb5
              clear hg5 hb5
              go_wp2
              go_roundw
              case rel =>
                refine ⟨k + 1, out.take j ++ s :: out.drop j, by go_num, by omega, ⟨by rw [hstep.out, HN.out, HIN.out]⟩, ⟨Kd.R_of_own ?_ (fun _ _ => trivial)⟩, ⟨HB5.out.setCell (p := ⟨g, j, none⟩) hbg _⟩⟩
                have hrow := insert_row (x := .int .u64 s) hbg (show (encs (Value.int .u64) out).length = out.length by simp [encs]) (show j ≤ out.length by omega) hnc hcm HCS.out HTK.out HG5.out
                have e1 : encs (Value.int .u64) (out.take j ++ s :: out.drop j) = (encs (Value.int .u64) out).take j ++ .int .u64 s :: (encs (Value.int .u64) out).drop j := by simp [encs]
                have e2 : (out.take j ++ s :: out.drop j).length = out.length + 1 := by simp; omega
                rw [e1, e2]
                first | exact hrow | (rw [hc1] at hrow; exact hrow)
              case measure => simp [intOf]; omega
    · obtain rfl : k = l0.length := by omega
      go_wp2
      go_ret
      exact ⟨_, rfl, by rw [HF.out]; unfold minimalL; have := HE.out; rw [List.take_length] at this; rw [← this]; exact HO.out, HB.out⟩

end Go.Proofs.Ytmopcjebjbdapaa.Pr
