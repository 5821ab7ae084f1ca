/- A siphon without tokens gets none, and a marked trap keeps some. -/
-- Written by a program of this session. Lean checks it.
import Derived.Test.YtaphehdbjbogaaaLSiphonStays
import Derived.Test.YtaphehdbjbogaaaRows
import Derived.WalkKit
import Derived.ProofKit
import Derived.OpenShut
import Derived.ShutString
import Derived.ChangeOld
import Derived.Below
import Derived.SizedLaws
namespace Go.Proofs.Ytaphehdbjbogaaa.siphonStays
open Go.ChangeShapes Go.WideShapes Go.ChangeAt Go.RowKit Go.Proofs.YtaphehdbjbogaaaW.PrintWords Go.Proofs.YtaphehdbjbogaaaW.PrintLast
open Go.ChangeMaps (open_string shut_string)
set_option linter.unusedVariables false
theorem own : ownKnob Try.prog.godebug = none := by kernel_rfl
theorem laidOut : laidOutB Try.prog = true := by kernel_rfl
set_option maxHeartbeats 2000000 in
set_option maxRecDepth 100000 in
theorem lifted (os : Os) (started : os.Started) (H : Type) (enc : TypeId × Value → H) :
    ReturnsInHanded {} Try.checked os 8 .any (Rows.siphonStaysSpec.pre6 enc Try.prog Try.f8 Rows.siphonStaysRow.domain false) (Rows.siphonStaysSpec.post enc Try.prog Try.f8 false true false false) := by
  refine returnsInHanded_of_change_sized (C := Try.checked) own started (by kernel_rfl) Try.func8
    (ChangeSpec.witness6 (enc := enc) (C := Try.checked) false ⟨#[], #[.agg #[.string ByteArray.empty, .slice none 0 0, .slice none 0 0], .int .u64 0, .slice none 0 0], []⟩ 8 (by kernel_rfl) (by kernel_rfl) (by kernel_rfl) (by kernel_rfl)) ?_
  intro W base args ds gs before hval0 hW hcnd hsz0 _
  have hsz : (DataW.weightsEach Try.prog (Try.f8.params.toList ++ Rows.siphonStaysSpec.plain.varTypes Try.prog) (ds ++ gs)).all (· ≤ reachBytes) = true := hsz0
  have hval : ∀ (j : Nat) t v, Try.f8.params[j]? = some t → args[j]? = some v → Value.okWide Try.prog W .any base t v := hval0
  have hW' := hW
  obtain ⟨p, q, hA0, hV, rfl, hfz, hnd⟩ := hW
  have hA : DataW.TrodAll enc Try.prog W 0 (fun _ => true) true Try.f8.params.toList args.toList ds p := hA0
  rw [Try.params8] at hA hval hsz
  obtain ⟨v0, vs0, d0, ds0, p0, q0, hargs, rfl, rfl, h0, r0⟩ := trodAll_cons hA
  obtain ⟨v1, vs1, d1, ds1, p1, q1, rfl, rfl, rfl, h1, r1⟩ := trodAll_cons r0
  obtain ⟨v2, vs2, d2, ds2, p2, q2, rfl, rfl, rfl, h2, r2⟩ := trodAll_cons r1
  obtain ⟨rfl, rfl, rfl⟩ := trodAll_nil r2
  obtain rfl : args = #[v0, v1, v2] := by cases args; simp_all
  obtain ⟨rfl, rfl⟩ := trodVars_none hV
  obtain ⟨cs0, rfl, hsz0⟩ := okWide_struct Try.underlying25 (hval 0 25 v0 rfl rfl)
  have k0 := h0
  have lt0 : ∀ x ∈ p0, x.block < W.heap.size := by obtain ⟨m, hm⟩ := k0; exact DataW.trod_lt m _ _ _ hm
  obtain ⟨a0, hK0, hok0⟩ := Opens.value (Opens.tuple (d := (Kd.pair Kd.string (Kd.pair (Kd.slice 56 Pr.k56) (Kd.slice 40 Pr.k40)))) Try.underlying25 (by kernel_rfl) (Opens.cons (Opens.string Try.underlying9 (by kernel_rfl)) rfl rfl (Opens.cons (Opens.slice (Opens.struct (d := (Kd.pair Kd.string (Kd.pair (Kd.int .i64) (Kd.int .i64)))) (f := fun x : Pr.S56 => (x.f0, x.f1, x.f2)) (fun a => ⟨a.1, a.2.1, a.2.2⟩) (fun _ => rfl) Try.underlying56 (by kernel_rfl) (Opens.cons (Opens.string Try.underlying9 (by kernel_rfl)) rfl rfl (Opens.cons (Opens.int (k := .i64) Try.underlying3 (by kernel_rfl)) rfl rfl (Opens.one (Opens.int (k := .i64) Try.underlying3 (by kernel_rfl)) rfl)))) Try.underlying22 (by kernel_rfl)) rfl rfl (Opens.one (Opens.slice (Opens.struct (d := (Kd.pair Kd.string (Kd.pair (Kd.slice 58 Pr.k58) (Kd.pair (Kd.slice 58 Pr.k58) (Kd.pair (Kd.slice 58 Pr.k58) (Kd.int .i64)))))) (f := fun x : Pr.S40 => (x.f0, x.f1, x.f2, x.f3, x.f4)) (fun a => ⟨a.1, a.2.1, a.2.2.1, a.2.2.2.1, a.2.2.2.2⟩) (fun _ => rfl) Try.underlying40 (by kernel_rfl) (Opens.cons (Opens.string Try.underlying9 (by kernel_rfl)) rfl rfl (Opens.cons (Opens.slice (Opens.struct (d := (Kd.pair (Kd.int .i64) (Kd.int .i64))) (f := fun x : Pr.S58 => (x.f0, x.f1)) (fun a => ⟨a.1, a.2⟩) (fun _ => rfl) Try.underlying58 (by kernel_rfl) (Opens.cons (Opens.int (k := .i64) Try.underlying3 (by kernel_rfl)) rfl rfl (Opens.one (Opens.int (k := .i64) Try.underlying3 (by kernel_rfl)) rfl))) Try.underlying38 (by kernel_rfl)) rfl rfl (Opens.cons (Opens.slice (Opens.struct (d := (Kd.pair (Kd.int .i64) (Kd.int .i64))) (f := fun x : Pr.S58 => (x.f0, x.f1)) (fun a => ⟨a.1, a.2⟩) (fun _ => rfl) Try.underlying58 (by kernel_rfl) (Opens.cons (Opens.int (k := .i64) Try.underlying3 (by kernel_rfl)) rfl rfl (Opens.one (Opens.int (k := .i64) Try.underlying3 (by kernel_rfl)) rfl))) Try.underlying38 (by kernel_rfl)) rfl rfl (Opens.cons (Opens.slice (Opens.struct (d := (Kd.pair (Kd.int .i64) (Kd.int .i64))) (f := fun x : Pr.S58 => (x.f0, x.f1)) (fun a => ⟨a.1, a.2⟩) (fun _ => rfl) Try.underlying58 (by kernel_rfl) (Opens.cons (Opens.int (k := .i64) Try.underlying3 (by kernel_rfl)) rfl rfl (Opens.one (Opens.int (k := .i64) Try.underlying3 (by kernel_rfl)) rfl))) Try.underlying38 (by kernel_rfl)) rfl rfl (Opens.one (Opens.int (k := .i64) Try.underlying3 (by kernel_rfl)) rfl)))))) Try.underlying23 (by kernel_rfl)) rfl)))) h0
  obtain ⟨_, _, hcs0, rfl, ⟨_, _, rfl, ⟨A0_1, cap0_1, rfl, hc0_1, hC0_1⟩, ⟨A0_2, cap0_2, rfl, hc0_2, hC0_2⟩⟩⟩ := hK0
  obtain rfl : cs0 = #[.string a0.1, .slice A0_1 a0.2.1.length cap0_1, .slice A0_2 a0.2.2.length cap0_2] := by apply Array.toList_inj.1; simpa using hcs0
  clear hcs0
  obtain ⟨a1, rfl, rfl, rfl, hok1⟩ := open_int Try.underlying26 (hval 1 26 v1 rfl rfl) h1
  obtain ⟨A2, len2, cap2, rfl⟩ := okWide_slice Try.underlying32 (hval 2 32 v2 rfl rfl)
  have k2 := h2
  have lt2 : ∀ x ∈ p2, x.block < W.heap.size := by obtain ⟨m, hm⟩ := k2; exact DataW.trod_lt m _ _ _ hm
  obtain ⟨a2, rfl, hc2, hC2, hok2⟩ := Opens.param (Opens.int (k := .i64) Try.underlying3 (by kernel_rfl)) Try.underlying32 (by kernel_rfl) h2
  clear hA0 hval0 hsz0 hsz
  obtain ⟨k, hk⟩ := Pure.SiphonStays a0 a1 a2 hok0 hok1 hok2
  refine (Pr.petrinetlaw33_SiphonStays.calls k (a0.1) A0_1 cap0_1 (a0.2.1) A0_2 cap0_2 (a0.2.2) a1 A2 cap2 a2 true W hC0_1 hc0_1 hC0_2 hc0_2 hC2 hc2 hk ⟨rfl⟩).mono fun e W' ⟨he, bel⟩ => ?_
  subst he
  exact ⟨_, rfl, _, _, _, [], _, [], hW', trodAll_mk1 (shut_bool Try.underlying4 _), (trodAll_cons_mk (Below.trod laidOut (by kernel_rfl) (of_decide_eq_true (by kernel_rfl)) k0 bel lt0) (trodAll_cons_mk (shut_int Try.underlying26 hok1) (trodAll_cons_mk (Below.trod laidOut (by kernel_rfl) (of_decide_eq_true (by kernel_rfl)) k2 bel lt2) trodAll_mk0))), rfl, bel.frame _, fun h => by cases h⟩
theorem over : Rows.siphonStaysRow.holds Try.pinned (OpenSpec.ofChange Rows.siphonStaysSpec) :=
  OpenClaim.holds_of_wide 8 Try.f8 rfl rfl rfl rfl rfl rfl rfl ⟨rfl, rfl, rfl, rfl, rfl⟩ rfl rfl rfl rfl rfl (by kernel_rfl) Try.func8 (by kernel_rfl)
    (of_decide_eq_true (by kernel_rfl)) (by unfold Func.isWrapper; first | (rw [if_pos (by decide +kernel)]; kernel_rfl) | (rw [if_neg (by decide +kernel)]; exact ⟨rfl, rfl⟩))
    (fun os started H enc _ => lifted os started H enc)
theorem proved : Rows.SiphonStaysSaid := over
#print axioms proved
end Go.Proofs.Ytaphehdbjbogaaa.siphonStays
namespace Go.Proofs.Ytaphehdbjbogaaa
/-- The row, under a short name, for the claim. -/
theorem siphonStays_holds : Rows.SiphonStaysSaid := siphonStays.proved
end Go.Proofs.Ytaphehdbjbogaaa
