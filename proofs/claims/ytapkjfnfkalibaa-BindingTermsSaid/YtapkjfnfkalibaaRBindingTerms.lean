/- Independent of the reference: the term with a variable has its weight at the color of the variable, the successor at the next one and the predecessor at the previous one, cyclically, and the term with all colors has its weight at each color. -/
-- Written by a program of this session. Lean checks it.
import Derived.Test.YtapkjfnfkalibaaLBindingTerms
import Derived.Test.YtapkjfnfkalibaaRows
import Derived.WalkKit
import Derived.ProofKit
import Derived.OpenShut
import Derived.ShutString
import Derived.ChangeOld
import Derived.Below
import Derived.SizedLaws
namespace Go.Proofs.Ytapkjfnfkalibaa.bindingTerms
open Go.ChangeShapes Go.WideShapes Go.ChangeAt Go.RowKit Go.Proofs.YtapkjfnfkalibaaW.PrintWords Go.Proofs.YtapkjfnfkalibaaW.PrintLast
open Go.ChangeMaps (open_string shut_string)
set_option linter.unusedVariables false
theorem own : ownKnob Try.prog.godebug = none := by kernel_rfl
theorem laidOut : laidOutB Try.prog = true := by kernel_rfl
set_option maxHeartbeats 2000000 in
set_option maxRecDepth 100000 in
theorem lifted (os : Os) (started : os.Started) (H : Type) (enc : TypeId × Value → H) :
    ReturnsInHanded {} Try.checked os 8 .any (Rows.bindingTermsSpec.pre6 enc Try.prog Try.f8 Rows.bindingTermsRow.domain false) (Rows.bindingTermsSpec.post enc Try.prog Try.f8 false true false false) := by
  refine returnsInHanded_of_change_sized (C := Try.checked) own started (by kernel_rfl) Try.func8
    (ChangeSpec.witness6 (enc := enc) (C := Try.checked) false ⟨#[], #[.slice none 0 0, .agg #[.string ByteArray.empty, .slice none 0 0, .slice none 0 0, .slice none 0 0, .slice none 0 0], .int .i64 0], []⟩ 8 (by kernel_rfl) (by kernel_rfl) (by kernel_rfl) (by kernel_rfl)) ?_
  intro W base args ds gs before hval0 hW hcnd hsz0 _
  have hsz : (DataW.weightsEach Try.prog (Try.f8.params.toList ++ Rows.bindingTermsSpec.plain.varTypes Try.prog) (ds ++ gs)).all (· ≤ reachBytes) = true := hsz0
  have hval : ∀ (j : Nat) t v, Try.f8.params[j]? = some t → args[j]? = some v → Value.okWide Try.prog W .any base t v := hval0
  have hW' := hW
  obtain ⟨p, q, hA0, hV, rfl, hfz, hnd⟩ := hW
  have hA : DataW.TrodAll enc Try.prog W 0 (fun _ => true) true Try.f8.params.toList args.toList ds p := hA0
  rw [Try.params8] at hA hval hsz
  obtain ⟨v0, vs0, d0, ds0, p0, q0, hargs, rfl, rfl, h0, r0⟩ := trodAll_cons hA
  obtain ⟨v1, vs1, d1, ds1, p1, q1, rfl, rfl, rfl, h1, r1⟩ := trodAll_cons r0
  obtain ⟨v2, vs2, d2, ds2, p2, q2, rfl, rfl, rfl, h2, r2⟩ := trodAll_cons r1
  obtain ⟨rfl, rfl, rfl⟩ := trodAll_nil r2
  obtain rfl : args = #[v0, v1, v2] := by cases args; simp_all
  obtain ⟨rfl, rfl⟩ := trodVars_none hV
  obtain ⟨A0, len0, cap0, rfl⟩ := okWide_slice Try.underlying22 (hval 0 22 v0 rfl rfl)
  have k0 := h0
  have lt0 : ∀ x ∈ p0, x.block < W.heap.size := by obtain ⟨m, hm⟩ := k0; exact DataW.trod_lt m _ _ _ hm
  obtain ⟨a0, rfl, hc0, hC0, hok0⟩ := Opens.param (Opens.struct (d := (Kd.pair Kd.string (Kd.slice 9 Kd.string))) (f := fun x : Pr.S51 => (x.f0, x.f1)) (fun a => ⟨a.1, a.2⟩) (fun _ => rfl) Try.underlying51 (by kernel_rfl) (Opens.cons (Opens.string Try.underlying9 (by kernel_rfl)) rfl rfl (Opens.one (Opens.slice (Opens.string Try.underlying9 (by kernel_rfl)) Try.underlying49 (by kernel_rfl)) rfl))) Try.underlying22 (by kernel_rfl) h0
  obtain ⟨cs1, rfl, hsz1⟩ := okWide_struct Try.underlying27 (hval 1 27 v1 rfl rfl)
  have k1 := h1
  have lt1 : ∀ x ∈ p1, x.block < W.heap.size := by obtain ⟨m, hm⟩ := k1; exact DataW.trod_lt m _ _ _ hm
  obtain ⟨a1, hK1, hok1⟩ := Opens.value (Opens.tuple (d := (Kd.pair Kd.string (Kd.pair (Kd.slice 48 Pr.k48) (Kd.pair (Kd.slice 62 Pr.k62) (Kd.pair (Kd.slice 111 Pr.k111) (Kd.slice 111 Pr.k111)))))) Try.underlying27 (by kernel_rfl) (Opens.cons (Opens.string Try.underlying9 (by kernel_rfl)) rfl rfl (Opens.cons (Opens.slice (Opens.struct (d := (Kd.pair Kd.string (Kd.int .i64))) (f := fun x : Pr.S48 => (x.f0, x.f1)) (fun a => ⟨a.1, a.2⟩) (fun _ => rfl) Try.underlying48 (by kernel_rfl) (Opens.cons (Opens.string Try.underlying9 (by kernel_rfl)) rfl rfl (Opens.one (Opens.int (k := .i64) Try.underlying3 (by kernel_rfl)) rfl))) Try.underlying23 (by kernel_rfl)) rfl rfl (Opens.cons (Opens.slice (Opens.struct (d := (Kd.pair (Kd.int .i64) (Kd.pair (Kd.int .i64) (Kd.int .i64)))) (f := fun x : Pr.S62 => (x.f0, x.f1, x.f2)) (fun a => ⟨a.1, a.2.1, a.2.2⟩) (fun _ => rfl) Try.underlying62 (by kernel_rfl) (Opens.cons (Opens.int (k := .i64) Try.underlying3 (by kernel_rfl)) rfl rfl (Opens.cons (Opens.int (k := .i64) Try.underlying3 (by kernel_rfl)) rfl rfl (Opens.one (Opens.int (k := .i64) Try.underlying3 (by kernel_rfl)) rfl)))) Try.underlying24 (by kernel_rfl)) rfl rfl (Opens.cons (Opens.slice (Opens.struct (d := (Kd.pair (Kd.int .i64) (Kd.slice 54 Pr.k54))) (f := fun x : Pr.S111 => (x.f0, x.f1)) (fun a => ⟨a.1, a.2⟩) (fun _ => rfl) Try.underlying111 (by kernel_rfl) (Opens.cons (Opens.int (k := .i64) Try.underlying3 (by kernel_rfl)) rfl rfl (Opens.one (Opens.slice (Opens.struct (d := (Kd.pair (Kd.int .i64) (Kd.pair (Kd.int .i64) (Kd.int .i64)))) (f := fun x : Pr.S54 => (x.f0, x.f1, x.f2)) (fun a => ⟨a.1, a.2.1, a.2.2⟩) (fun _ => rfl) Try.underlying54 (by kernel_rfl) (Opens.cons (Opens.int (k := .i64) Try.underlying3 (by kernel_rfl)) rfl rfl (Opens.cons (Opens.int (k := .i64) Try.underlying3 (by kernel_rfl)) rfl rfl (Opens.one (Opens.int (k := .i64) Try.underlying3 (by kernel_rfl)) rfl)))) Try.underlying28 (by kernel_rfl)) rfl))) Try.underlying25 (by kernel_rfl)) rfl rfl (Opens.one (Opens.slice (Opens.struct (d := (Kd.pair (Kd.int .i64) (Kd.slice 54 Pr.k54))) (f := fun x : Pr.S111 => (x.f0, x.f1)) (fun a => ⟨a.1, a.2⟩) (fun _ => rfl) Try.underlying111 (by kernel_rfl) (Opens.cons (Opens.int (k := .i64) Try.underlying3 (by kernel_rfl)) rfl rfl (Opens.one (Opens.slice (Opens.struct (d := (Kd.pair (Kd.int .i64) (Kd.pair (Kd.int .i64) (Kd.int .i64)))) (f := fun x : Pr.S54 => (x.f0, x.f1, x.f2)) (fun a => ⟨a.1, a.2.1, a.2.2⟩) (fun _ => rfl) Try.underlying54 (by kernel_rfl) (Opens.cons (Opens.int (k := .i64) Try.underlying3 (by kernel_rfl)) rfl rfl (Opens.cons (Opens.int (k := .i64) Try.underlying3 (by kernel_rfl)) rfl rfl (Opens.one (Opens.int (k := .i64) Try.underlying3 (by kernel_rfl)) rfl)))) Try.underlying28 (by kernel_rfl)) rfl))) Try.underlying25 (by kernel_rfl)) rfl)))))) h1
  obtain ⟨_, _, hcs1, rfl, ⟨_, _, rfl, ⟨A1_1, cap1_1, rfl, hc1_1, hC1_1⟩, ⟨_, _, rfl, ⟨A1_2, cap1_2, rfl, hc1_2, hC1_2⟩, ⟨_, _, rfl, ⟨A1_3, cap1_3, rfl, hc1_3, hC1_3⟩, ⟨A1_4, cap1_4, rfl, hc1_4, hC1_4⟩⟩⟩⟩⟩ := hK1
  obtain rfl : cs1 = #[.string a1.1, .slice A1_1 a1.2.1.length cap1_1, .slice A1_2 a1.2.2.1.length cap1_2, .slice A1_3 a1.2.2.2.1.length cap1_3, .slice A1_4 a1.2.2.2.2.length cap1_4] := by apply Array.toList_inj.1; simpa using hcs1
  clear hcs1
  obtain ⟨a2, rfl, rfl, rfl, hok2⟩ := open_int Try.underlying3 (hval 2 3 v2 rfl rfl) h2
  clear hA0 hval0 hsz0 hsz
  obtain ⟨k, hk⟩ := Pure.BindingTerms a0 a1 a2 hok0 hok1 hok2
  refine (Pr.l40_BindingTerms.calls k A0 cap0 a0 (a1.1) A1_1 cap1_1 (a1.2.1) A1_2 cap1_2 (a1.2.2.1) A1_3 cap1_3 (a1.2.2.2.1) A1_4 cap1_4 (a1.2.2.2.2) a2 true W hC0 hc0 hC1_1 hc1_1 hC1_2 hc1_2 hC1_3 hc1_3 hC1_4 hc1_4 hk ⟨rfl⟩).mono fun e W' ⟨he, bel⟩ => ?_
  subst he
  exact ⟨_, rfl, _, _, _, [], _, [], hW', trodAll_mk1 (shut_bool Try.underlying4 _), (trodAll_cons_mk (Below.trod laidOut (by kernel_rfl) (of_decide_eq_true (by kernel_rfl)) k0 bel lt0) (trodAll_cons_mk (Below.trod laidOut (by kernel_rfl) (of_decide_eq_true (by kernel_rfl)) k1 bel lt1) (trodAll_cons_mk (shut_int Try.underlying3 hok2) trodAll_mk0))), rfl, bel.frame _, fun h => by cases h⟩
theorem over : Rows.bindingTermsRow.holds Try.pinned (OpenSpec.ofChange Rows.bindingTermsSpec) :=
  OpenClaim.holds_of_wide 8 Try.f8 rfl rfl rfl rfl rfl rfl rfl ⟨rfl, rfl, rfl, rfl, rfl⟩ rfl rfl rfl rfl rfl (by kernel_rfl) Try.func8 (by kernel_rfl)
    (of_decide_eq_true (by kernel_rfl)) (by unfold Func.isWrapper; first | (rw [if_pos (by decide +kernel)]; kernel_rfl) | (rw [if_neg (by decide +kernel)]; exact ⟨rfl, rfl⟩))
    (fun os started H enc _ => lifted os started H enc)
theorem proved : Rows.BindingTermsSaid := over
#print axioms proved
end Go.Proofs.Ytapkjfnfkalibaa.bindingTerms
namespace Go.Proofs.Ytapkjfnfkalibaa
/-- The row, under a short name, for the claim. -/
theorem bindingTerms_holds : Rows.BindingTermsSaid := bindingTerms.proved
end Go.Proofs.Ytapkjfnfkalibaa
