-- Written by a program of this session (the kit's print with mkprint.py's replacements). Lean checks it.
import Derived.Test.YtaofommgdgmncaaPr0
import Derived.Test.YtaofommgdgmncaaPr3
import Derived.Test.YtaofommgdgmncaaPr4
import Derived.Test.YtaofommgdgmncaaPr5
import Derived.Test.YtaofommgdgmncaaIterK
import Derived.Test.YtaofommgdgmncaaParts
import Derived.Sort.QuietIn
import Derived.Shelf.RegionOpen
namespace Go.Proofs.Ytaofommgdgmncaa.Pr
open Go.RowKit Go.Proofs.YtaofommgdgmncaaW.PrintWords Go.Proofs.YtaofommgdgmncaaW.PrintLast Go.Proofs.YtaofommgdgmncaaW.PrintMore
attribute [local go_sem] Instr.field asAgg
attribute [local go_sem] max2_int min2_int max_two min_two max_three min_three max_four min_four   -- for this text's walks alone
set_option linter.unusedVariables false
set_option linter.unusedSimpArgs false

-- STUBBED 10
/-! ### eventlog_Parse: function 10: by hand -/
open Go.Shelf Go.Proofs.Ytaofommgdgmncaa.Iter Go.Proofs.Ytaofommgdgmncaa.Parts Go.Proofs.Ytaofommgdgmncaa.Names
attribute [local go_sem] Oper.semAt_some

/-! ### what Parse tells -/
/-- The trace of the words of a line: none where a word is no name. -/
def traceB (ws : List ByteArray) : Option (List ByteArray) := if ws.map (·.toList) = [[45]] then some [] else if ws.all nameB then some ws else none
theorem trace_l0 (l : List ByteArray) (hl : l.length ≤ 1099511627777) : ∀ (d k i : Nat), i ≤ l.length → l.length - i = d → d < k → eventlog_trace.l0 k l l (l.length : Int) (i : Int) = some (if (l.drop i).all nameB then (l, true) else ([], false)) := by
  intro d
  induction d with
  | zero =>
    intro k i hi hd hk
    obtain ⟨k, rfl⟩ : ∃ m, k = m + 1 := ⟨k - 1, by omega⟩
    simp only [eventlog_trace.l0]
    rw [if_neg (by omega), List.drop_of_length_le (by omega)]
    rfl
  | succ d ih =>
    intro k i hi hd hk
    obtain ⟨k, rfl⟩ : ∃ m, k = m + 1 := ⟨k - 1, by omega⟩
    have hlt : i < l.length := by omega
    have hw : wrap64 ((i : Int) + 1) = ((i + 1 : Nat) : Int) := by unfold wrap64; omega
    have hrd : rdOf ByteArray.empty l (i : Int) = l[i] := by simp [rdOf, hlt]
    simp only [eventlog_trace.l0]
    rw [if_pos (by omega), if_pos (by omega), if_pos (by omega), hrd, hw, ih k (i + 1) (by omega) (by omega) (by omega), List.drop_eq_getElem_cons hlt, List.all_cons]
    simp only [eventlog_Name.f, Option.bind_some]
    cases hn : nameB l[i] <;> simp
theorem trace_f (l : List ByteArray) (hl : l.length ≤ 1099511627777) : eventlog_trace.f (l.length + 2) l = some ((traceB l).getD [], (traceB l).isSome) := by
  have h0 := trace_l0 l hl l.length (l.length + 1) 0 (by omega) (by omega) (by omega)
  rw [List.drop_zero] at h0
  unfold eventlog_trace.f traceB
  by_cases h1 : (l.length : Int) = 1
  · rw [if_pos h1, if_pos (by omega)]
    obtain ⟨x, rfl⟩ : ∃ x, l = [x] := by
      cases l with
      | nil => simp at h1
      | cons x t => cases t with
        | nil => exact ⟨x, rfl⟩
        | cons y t => simp at h1; omega
    have hr : rdOf ByteArray.empty [x] 0 = x := rfl
    rw [hr]
    by_cases hx : x.toList = [45]
    · rw [if_pos (by simp [hx])]
      simp [eventlog_trace.j0, hx]
    · rw [if_neg (by simpa using hx)]
      have : (x.toList == ([45] : List UInt8)) = false := by simpa using hx
      rw [this]
      simp only [eventlog_trace.j0]
      rw [if_neg (by decide)]
      rw [show (0 : Int) = ((0 : Nat) : Int) from rfl, h0]
      cases hn : [x].all nameB <;> simp
  · rw [if_neg h1, if_neg (fun h => h1 (by have := congrArg List.length h; simp at this; omega))]
    simp only [eventlog_trace.j0]
    rw [if_neg (by decide)]
    rw [show (0 : Int) = ((0 : Nat) : Int) from rfl, h0]
    cases hn : l.all nameB <;> simp

/-- One line more: what the log is then, or the error. -/
def stepP (out : List (List ByteArray)) (line : ByteArray) : List (List ByteArray) ⊕ Int :=
  if wordsOf line = [] then .inl out
  else match traceB (wordsOf line) with
    | none => .inr 11
    | some t => if t.length > 64 ∨ out.length = 64 then .inr 2 else .inl (out ++ [t])
/-- The log of the lines so far, if none has an error. -/
def stP (pre : List ByteArray) : Option (List (List ByteArray)) := pre.foldl (fun o line => o.bind fun out => match stepP out line with | .inl o' => some o' | .inr _ => none) (some [])
theorem stP_snoc (pre : List ByteArray) (x : ByteArray) : stP (pre ++ [x]) = (stP pre).bind fun out => match stepP out x with | .inl o' => some o' | .inr _ => none := by unfold stP; rw [List.foldl_append]; rfl
def parseGo : List ByteArray → List (List ByteArray) → Nat → List (List ByteArray) × Int × Int
  | [], out, _ => (out, 0, 0)
  | x :: xs, out, at_ => match stepP out x with
    | .inl o' => parseGo xs o' (at_ + 1)
    | .inr e => ([], e, ((at_ + 1 : Nat) : Int))
def parseB (s : ByteArray) : List (List ByteArray) × Int × Int := parseGo (partsOf s 10) [] 0
def foldP (o : Option (List (List ByteArray))) (line : ByteArray) : Option (List (List ByteArray)) := o.bind fun out => match stepP out line with | .inl o' => some o' | .inr _ => none
theorem foldP_none : ∀ (pre : List ByteArray), pre.foldl foldP none = none
  | [] => rfl
  | _ :: pre => foldP_none pre
theorem parseGo_pre' : ∀ (pre : List ByteArray) (o : List (List ByteArray)) (k : Nat) {out : List (List ByteArray)}, pre.foldl foldP (some o) = some out → ∀ rest, parseGo (pre ++ rest) o k = parseGo rest out (k + pre.length) := by
  intro pre
  induction pre with
  | nil => intro o k out h rest; cases h; rfl
  | cons x pre ih =>
    intro o k out h rest
    rw [List.foldl_cons] at h
    show parseGo (x :: (pre ++ rest)) o k = _
    rw [parseGo]
    cases hs : stepP o x with
    | inl o' =>
      have : foldP (some o) x = some o' := by simp [foldP, hs]
      rw [this] at h
      show parseGo (pre ++ rest) o' (k + 1) = _
      rw [ih o' (k + 1) h rest, List.length_cons]
      congr 1; omega
    | inr e =>
      have : foldP (some o) x = none := by simp [foldP, hs]
      rw [this, foldP_none] at h
      cases h
theorem parseGo_pre (pre : List ByteArray) {out : List (List ByteArray)} (h : stP pre = some out) (rest : List ByteArray) : parseGo (pre ++ rest) [] 0 = parseGo rest out pre.length := by
  rw [parseGo_pre' pre [] 0 h rest, Nat.zero_add]
def eventlog_Parse.f (a0 : ByteArray) : Option ((List (List ByteArray)) × Int × Int) := if (a0.size : Int) > 65536 then some ([], 2, 0) else some (parseB a0)

/-- Between two rounds. -/
def ParseI (w : World) (s : ByteArray) (pre : List (Part s)) (W : World) : Prop :=
  ((∃ out v, (stP (pre.map Part.val) = some out ∧ out.length ≤ pre.length) ∧ Boxed W (w.heap.size + 1 + 1) 23 v ∧ Kd.S (Kd.slice 9 Kd.string) 34 W (w.heap.size + 1 + 1 + 1 + 1 + 1 + 1) (fun _ => True) v out) ∧
  Boxed W (w.heap.size + 1 + 1 + 1) 3 (.int .i64 (pre.length : Int)) ∧ Boxed W w.heap.size 23 (.slice none 0 0) ∧ Blk W (w.heap.size + 1) 26 [.int .i64 0, .int .i64 0] ∧
  (Boxed W (w.heap.size + 1 + 1 + 1 + 1) 9 (.string s) ∧ Boxed W (w.heap.size + 1 + 1 + 1 + 1 + 1) 5 (.int .u8 10))) ∧ Below w.heap.size w W
/-- A round has left: the error is written. -/
def ParseX (w : World) (s : ByteArray) (c : Code) (pre : List (Part s)) (W : World) : Prop :=
  (∃ q x out e, (c = .ret ∧ pre = q ++ [x] ∧ stP (q.map Part.val) = some out ∧ stepP out x.val = .inr e) ∧ Boxed W w.heap.size 23 (.slice none 0 0) ∧ Blk W (w.heap.size + 1) 26 [.int .i64 e, .int .i64 (((q.length + 1 : Nat)) : Int)]) ∧ Below w.heap.size w W
theorem parseI_own (w : World) (s : ByteArray) (B : Nat) (hB : w.heap.size ≤ B) : OwnFrom B (ParseI w s) :=
  OwnFrom.and (Own.from (Own.and' (Own.ex fun out => Own.ex fun v => Own.and' (Own.pure fun pre : List (Part s) => stP (pre.map Part.val) = some out ∧ out.length ≤ pre.length) (Own.and' (boxed_own _ _ fun _ => v) (S_own _ _ _ _ (fun _ => v) fun _ => out)))
    (Own.and' (boxed_own _ _ fun pre : List (Part s) => .int .i64 (pre.length : Int)) (Own.and' (boxed_own _ _ fun _ => _) (Own.and' (blk_own _ _ fun _ => _) (Own.and' (boxed_own _ _ fun _ => _) (boxed_own _ _ fun _ => _)))))) _) (ownFrom_below (Nat.le_refl _) hB)
theorem parseX_own (w : World) (s : ByteArray) (B : Nat) (hB : w.heap.size ≤ B) (c : Code) : OwnFrom B (ParseX w s c) :=
  OwnFrom.and (Own.from (Own.ex fun q => Own.ex fun x => Own.ex fun out => Own.ex fun e => Own.and' (Own.pure fun pre : List (Part s) => c = .ret ∧ pre = q ++ [x] ∧ stP (q.map Part.val) = some out ∧ stepP out x.val = .inr e) (Own.and' (boxed_own _ _ fun _ => _) (blk_own _ _ fun _ => _))) _) (ownFrom_below (Nat.le_refl _) hB)
theorem words_len (s : ByteArray) : (wordsOf s).length ≤ s.size + 1 := Nat.le_trans (wordsIn_len _) (pf_len s 32 (s.size + 1))

set_option maxRecDepth 100000 in
set_option maxHeartbeats 4000000 in
theorem eventlog_Parse.in_ (n : Nat) (hn : 4 ≤ n) (s : ByteArray) (hs : s.size ≤ 65536) (w : World) :
    CallsIn Fence.wide n Try.prog 10 #[.string s] w fun e W' => ∃ v0_ : Value, e = .returned (.tuple #[v0_, .agg #[.int .i64 (parseB s).2.1, .int .i64 (parseB s).2.2]]) ∧ Kd.S (Kd.slice 9 Kd.string) 34 W' w.heap.size (fun _ => True) v0_ (parseB s).1 ∧ Below w.heap.size w W' := by
  have h1 : 1 ≤ n := by omega
  have g1 : ¬ (65536 : Int) < (s.size : Int) := by omega
  refine callsIn_of_wp_marks Try.func10 rfl trivial ?_ rfl
  simp only [Try.ntmps10, List.size_toArray, List.length_cons, List.length_nil, Nat.reduceAdd, Nat.reduceSub, Array.replicate_succ, Array.replicate_zero, List.push_toArray, List.append_toArray, List.nil_append, List.cons_append]
  gi_wp2_with (refine ⟨trivial, ?_⟩; gi_at_call 34; refine (parts_in Fence.wide (n - 1) trivial rfl _ _ _).mono ?_; rintro e w' ⟨rfl, rfl⟩)
  have bN := Boxed.new ((((w.alloc (.cells #[.slice none 0 0] 23)).alloc (.cells #[.int .i64 0, .int .i64 0] 26)).alloc (.cells #[.slice none 0 0] 23)).alloc (.cells #[.int .i64 0] 3)) 9 (.string s)
  have bM := Boxed.new (((((w.alloc (.cells #[.slice none 0 0] 23)).alloc (.cells #[.int .i64 0, .int .i64 0] 26)).alloc (.cells #[.slice none 0 0] 23)).alloc (.cells #[.int .i64 0] 3)).alloc (.cells #[.string s] 9)) 5 (.int .u8 10)
  have bR := Boxed.new w 23 (.slice none 0 0)
  have bO := Boxed.new ((w.alloc (.cells #[.slice none 0 0] 23)).alloc (.cells #[.int .i64 0, .int .i64 0] 26)) 23 (.slice none 0 0)
  have bA := Boxed.new (((w.alloc (.cells #[.slice none 0 0] 23)).alloc (.cells #[.int .i64 0, .int .i64 0] 26)).alloc (.cells #[.slice none 0 0] 23)) 3 (.int .i64 0)
  have bF : Blk ((w.alloc (.cells #[.slice none 0 0] 23)).alloc (.cells #[.int .i64 0, .int .i64 0] 26)) (w.heap.size + 1) 26 [.int .i64 0, .int .i64 0] := by
    have := World.alloc_heap_new (w.alloc (.cells #[.slice none 0 0] 23)) (.cells #[.int .i64 0, .int .i64 0] 26)
    rwa [World.size_alloc] at this
  rw [World.size_alloc, World.size_alloc] at bO
  rw [World.size_alloc, World.size_alloc, World.size_alloc] at bA
  rw [World.size_alloc, World.size_alloc, World.size_alloc, World.size_alloc] at bN
  rw [World.size_alloc, World.size_alloc, World.size_alloc, World.size_alloc, World.size_alloc] at bM
  have hB0 : Below w.heap.size w (((((((w.alloc (.cells #[.slice none 0 0] 23)).alloc (.cells #[.int .i64 0, .int .i64 0] 26)).alloc (.cells #[.slice none 0 0] 23)).alloc (.cells #[.int .i64 0] 3)).alloc (.cells #[.string s] 9)).alloc (.cells #[.int .u8 10] 5))) :=
    ((((((Below.refl _ w).alloc (Nat.le_refl _) _).alloc (by simp) _).alloc (by simp; omega) _).alloc (by simp; omega) _).alloc (by simp; omega) _).alloc (by simp; omega) _
  refine wpIn_rangeFunc_ownG (F := Fence.wide) (show Fence.wide.round = none from rfl) h1 (gf := 44) (lb := #[.pointer (some ⟨w.heap.size + 1 + 1 + 1 + 1, 0, none⟩), .pointer (some ⟨w.heap.size + 1 + 1 + 1 + 1 + 1, 0, none⟩)]) rfl trivial (enters_of Try.func44 (by kernel_rfl) rfl)
    (parts_stopsB (n - 1) (by omega) (w.heap.size + 1 + 1 + 1 + 1) (w.heap.size + 1 + 1 + 1 + 1 + 1) w.heap.size s 10 (by omega) _ (boxesOf_iff.2 ⟨bN.alloc _, bM⟩)) kpBs_t (kpBs_b (by simp; omega)) (Below.refl _ _) (by intro _; rfl)
    (ParseI w s) (ParseX w s) (parseI_own w s _ (by simp; omega)) (parseX_own w s _ (by simp; omega))
    ⟨⟨⟨[], _, ⟨rfl, Nat.le_refl _⟩, ((bO.alloc _).alloc _).alloc _, Kd.S_nil _ _ _ _ _⟩, (bA.alloc _).alloc _, ((((bR.alloc _).alloc _).alloc _).alloc _).alloc _, blk_alloc (blk_alloc (blk_alloc (blk_alloc bF _) _) _) _, bN.alloc _, bM⟩, hB0⟩
    (fun x => { tmps := #[.string s, undef, .pointer (some ⟨w.heap.size, 0, none⟩), .pointer (some ⟨w.heap.size + 1, 0, none⟩), .pointer (some ⟨w.heap.size + 1 + 1, 0, none⟩), .pointer (some ⟨w.heap.size + 1 + 1 + 1, 0, none⟩), .string x.val, undef, undef, undef, .string s, .int .i64 s.size, .bool false, undef, .string s, .func (.func 44) #[] #[.pointer (some ⟨w.heap.size + 1 + 1 + 1 + 1, 0, none⟩), .pointer (some ⟨w.heap.size + 1 + 1 + 1 + 1 + 1, 0, none⟩)], .string x.val, undef, undef, undef, undef, undef, undef, undef, undef, undef, undef, undef, undef, undef, undef, undef, undef, undef, undef, undef, undef, undef, undef, undef, undef, undef, undef, undef, undef, undef, undef, undef, undef], defers := [] }) ?assign ?body ?done ?stop
  case assign =>
    intro l x W K hK
    gi_wp2
    exact hK
  case body =>
    rintro l pre x W ⟨⟨⟨out, v, ⟨hst, hol⟩, hv, hS⟩, hat, hr2, hr3, hb1, hb2⟩, hB⟩ hlt
    have hc := hat.cell
    have hcf := hat.frozen
    have hwl := words_len x.val
    have hxl := x.le
    obtain ⟨A0, c0, rfl⟩ := Kd.S_slice hS
    have hltv := hv.lt
    gi_wp2
    obtain ⟨W1, hW1⟩ : ∃ W1, W.setCell ⟨w.heap.size + 1 + 1 + 1, 0, none⟩ (.int .i64 ((pre.length : Int) + 1)) = W1 := ⟨_, rfl⟩
    have hat1 : Boxed W1 (w.heap.size + 1 + 1 + 1) 3 (.int .i64 ((pre.length : Int) + 1)) := hW1 ▸ hat.set _
    have hv1 : Boxed W1 (w.heap.size + 1 + 1) 23 (.slice A0 out.length c0) := hW1 ▸ hv.other (by omega) _
    have hr21 : Boxed W1 w.heap.size 23 (.slice none 0 0) := hW1 ▸ hr2.other (by omega) _
    have hr31 : Blk W1 (w.heap.size + 1) 26 [.int .i64 0, .int .i64 0] := by
      rw [← hW1]
      exact (Below.heap_setCell W _ _ _ (by simp)).trans hr3
    have hb11 : Boxed W1 (w.heap.size + 1 + 1 + 1 + 1) 9 (.string s) := hW1 ▸ hb1.other (by omega) _
    have hb21 : Boxed W1 (w.heap.size + 1 + 1 + 1 + 1 + 1) 5 (.int .u8 10) := hW1 ▸ hb2.other (by omega) _
    have hS1 : Kd.S (Kd.slice 9 Kd.string) 34 W1 (w.heap.size + 1 + 1 + 1 + 1 + 1 + 1) (fun _ => True) (.slice A0 out.length c0) out := by
      rw [← hW1]
      exact Kd.S_mono (Kd.S_far (Kd.S_bound hS) (fun k hk => by have := hk.2.1; simp; omega) _) (fun _ _ => trivial)
    have hBW1 : Below w.heap.size w W1 := hW1 ▸ hB.setCell (p := ⟨w.heap.size + 1 + 1 + 1, 0, none⟩) (by simp; omega) _
    have hBWW : Below w.heap.size W W1 := hW1 ▸ (Below.refl _ W).setCell (p := ⟨w.heap.size + 1 + 1 + 1, 0, none⟩) (by simp; omega) _
    have hKW1 : KeepsOthers W W1 := hW1 ▸ KeepsOthers.setCell _ _ _
    have hsz1 : W1.heap.size = W.heap.size := by rw [← hW1]; simp
    have HHW := Aside0.mk hW1
    rw [hW1]
    clear hW1 hc hcf
    refine ⟨trivial, (fun h => by cases h), ((CallsIn.inRound l (callsIn_wide.2 (eventlog_words.calls x.val (wordsOf x.val) _ (by rw [eventlog_words.f, if_pos (by omega)]))))).mono ?_⟩
    rintro e W2 ⟨vw, rfl, hrow, hbW⟩
    obtain ⟨Aw, cw, rfl⟩ := Kd.R_slice hrow
    have HROW := Aside0.mk hrow
    clear hrow
    have HB2 := Aside0.mk hbW
    by_cases hw0 : wordsOf x.val = []
    · have hl0 : (((wordsOf x.val).length : Int) == 0) = true := by rw [hw0]; rfl
      gi_wp2
      have hat3 := boxed_later hat1 HB2.out
      have hb13 := boxed_later hb11 HB2.out
      have hb23 := boxed_later hb21 HB2.out
      have hBW3 : Below w.heap.size W1 W2 := HB2.out.mono hBW1.size
      exact ⟨(hKW1.trans (keeps_later HB2.out)).from _, ⟨hBWW.trans hBW3, fun _ => boxesOf_iff.2 ⟨hb13, hb23⟩⟩,
        ⟨⟨out, _, ⟨by rw [List.map_append, List.map_cons, List.map_nil, stP_snoc, hst, Option.bind_some, stepP, if_pos hw0], by simp; omega⟩, boxed_later hv1 HB2.out, Kd.S_below hS1 HB2.out⟩,
          by simpa using hat3, boxed_later hr21 HB2.out, blk_later hr31 HB2.out, hb13, hb23⟩, hBW1.trans hBW3⟩
    · have hlp : 0 < (wordsOf x.val).length := List.length_pos_iff.2 hw0
      have hl0 : (((wordsOf x.val).length : Int) == 0) = false := beq_eq_false_iff_ne.2 (by omega)
      gi_wp2
      refine ⟨trivial, (fun h => by cases h), ((CallsIn.inRound l (callsIn_wide.2 (eventlog_trace.calls _ (fun k => W1.heap.size ≤ k) _ (wordsOf x.val) _ _ W1 W2 HB2.out (Kd.R_mono (Kd.R_bound HROW.out) (fun k hk => hk.2.1)) (trace_f _ (by omega)))))).mono ?_⟩
      rintro e W3 ⟨vt, rfl, hrt, hbT, _⟩
      have hrt2 : Kd.R Kd.string 9 W3 W1.heap.size (fun k => W1.heap.size ≤ k) vt ((traceB (wordsOf x.val)).getD []) := Kd.R_mono hrt (fun k hk => by have := HB2.out.size; omega)
      clear hrt
      have hat3 := boxed_later hat1 hbT
      have hb13 := boxed_later hb11 hbT
      have hb23 := boxed_later hb21 hbT
      have hv3 := boxed_later hv1 hbT
      have hr23 := boxed_later hr21 hbT
      have hr33 := blk_later hr31 hbT
      have hS3 := Kd.S_mono (Kd.S_bound hS1) (ok' := fun k => k < W1.heap.size) (fun k hk => hk.2.2.1)
      have hS3 := Kd.S_below hS3 hbT
      have hBW3 : Below w.heap.size w W3 := hBW1.trans (hbT.mono hBW1.size)
      have hBWW3 : Below w.heap.size W W3 := hBWW.trans (hbT.mono hBW1.size)
      have hKW3 : KeepsOthers W W3 := hKW1.trans (keeps_later hbT)
      have hatc := hat3.cell
      have hatf := hat3.frozen
      have hr2c := hr23.cell
      have hr2f := hr23.frozen
      have hr3c0 : W3.cell? ⟨w.heap.size + 1, 0, none⟩ = some (.int .i64 0) := by simp [World.cell?, show W3.heap[w.heap.size + 1]? = _ from hr33]
      have hr3c1 : W3.cell? ⟨w.heap.size + 1, 1, none⟩ = some (.int .i64 0) := by simp [World.cell?, show W3.heap[w.heap.size + 1]? = _ from hr33]
      have hr3f0 : W3.frozen? ⟨w.heap.size + 1, 0, none⟩ = false := by simp [World.frozen?, show W3.heap[w.heap.size + 1]? = _ from hr33]
      have hr3f1 : W3.frozen? ⟨w.heap.size + 1, 1, none⟩ = false := by simp [World.frozen?, show W3.heap[w.heap.size + 1]? = _ from hr33]
      have HT := Aside0.mk hbT
      clear hbT
      cases htb : traceB (wordsOf x.val) with
      | none =>
        rw [htb] at hrt2
        have HTB := Aside0.mk htb
        clear htb
        gi_wp2
        refine wpIn_region_round (F := Fence.wide) (by kernel_rfl) (by kernel_rfl) ?_
        refine wpAnyIn_ready (rs := [0, 2]) (by kernel_rfl) (by simp) (AllReadyIn.cons rfl (fun K hK => ?_) (AllReadyIn.cons rfl (fun K hK => ?_) AllReadyIn.nil))
        · go_simp
          refine hK _ _ ?_
          clear hK K
          refine wpAnyIn_ready (rs := [1, 2]) (by kernel_rfl) (by simp) (AllReadyIn.cons rfl (fun K hK => ?_) (AllReadyIn.cons rfl (fun K hK => ?_) AllReadyIn.nil))
          · go_simp
            refine hK _ _ ?_
            clear hK K
            refine wpAnyIn_ready (rs := [2]) (by kernel_rfl) (by simp) (AllReadyIn.cons rfl (fun K hK => ?_) AllReadyIn.nil)
            · go_simp
              refine hK _ _ ?_
              clear hK K
              refine wpAnyIn_ready (rs := [3]) (by kernel_rfl) (by simp) (AllReadyIn.cons rfl (fun K hK => ?_) AllReadyIn.nil)
              · go_simp
                refine hK _ _ ?_
                clear hK K
                refine wpAnyIn_done (by kernel_rfl) ?_ _
                gi_wp2
                obtain ⟨x1, x2, x3, x4⟩ := err_world rfl hr23 hr33 (.slice none 0 0) (.int .i64 11) (.int .i64 ((pre.length : Int) + 1))
                exact ⟨(hKW3.trans x3).from _, ⟨pre, x, out, 11, ⟨rfl, rfl, hst, by rw [stepP, if_neg hw0, HTB.out]⟩, x1, by simpa using x2⟩, hBW3.trans x4⟩
          · go_simp
            refine hK _ _ ?_
            clear hK K
            refine wpAnyIn_ready (rs := [1]) (by kernel_rfl) (by simp) (AllReadyIn.cons rfl (fun K hK => ?_) AllReadyIn.nil)
            · go_simp
              refine hK _ _ ?_
              clear hK K
              refine wpAnyIn_ready (rs := [3]) (by kernel_rfl) (by simp) (AllReadyIn.cons rfl (fun K hK => ?_) AllReadyIn.nil)
              · go_simp
                refine hK _ _ ?_
                clear hK K
                refine wpAnyIn_done (by kernel_rfl) ?_ _
                gi_wp2
                obtain ⟨x1, x2, x3, x4⟩ := err_world rfl hr23 hr33 (.slice none 0 0) (.int .i64 11) (.int .i64 ((pre.length : Int) + 1))
                exact ⟨(hKW3.trans x3).from _, ⟨pre, x, out, 11, ⟨rfl, rfl, hst, by rw [stepP, if_neg hw0, HTB.out]⟩, x1, by simpa using x2⟩, hBW3.trans x4⟩
        · go_simp
          refine hK _ _ ?_
          clear hK K
          refine wpAnyIn_ready (rs := [0]) (by kernel_rfl) (by simp) (AllReadyIn.cons rfl (fun K hK => ?_) AllReadyIn.nil)
          · go_simp
            refine hK _ _ ?_
            clear hK K
            refine wpAnyIn_ready (rs := [1]) (by kernel_rfl) (by simp) (AllReadyIn.cons rfl (fun K hK => ?_) AllReadyIn.nil)
            · go_simp
              refine hK _ _ ?_
              clear hK K
              refine wpAnyIn_ready (rs := [3]) (by kernel_rfl) (by simp) (AllReadyIn.cons rfl (fun K hK => ?_) AllReadyIn.nil)
              · go_simp
                refine hK _ _ ?_
                clear hK K
                refine wpAnyIn_done (by kernel_rfl) ?_ _
                gi_wp2
                obtain ⟨x1, x2, x3, x4⟩ := err_world rfl hr23 hr33 (.slice none 0 0) (.int .i64 11) (.int .i64 ((pre.length : Int) + 1))
                exact ⟨(hKW3.trans x3).from _, ⟨pre, x, out, 11, ⟨rfl, rfl, hst, by rw [stepP, if_neg hw0, HTB.out]⟩, x1, by simpa using x2⟩, hBW3.trans x4⟩
      | some t =>
        rw [htb] at hrt2
        have HTB := Aside0.mk htb
        clear htb
        obtain ⟨At, ct, rfl⟩ := Kd.R_slice hrt2
        have HRT := Aside0.mk hrt2
        clear hrt2
        by_cases ht64 : 64 < t.length
        · gi_wp2
          refine wpIn_region_round (F := Fence.wide) (by kernel_rfl) (by kernel_rfl) ?_
          refine wpAnyIn_ready (rs := [0, 2]) (by kernel_rfl) (by simp) (AllReadyIn.cons rfl (fun K hK => ?_) (AllReadyIn.cons rfl (fun K hK => ?_) AllReadyIn.nil))
          · go_simp
            refine hK _ _ ?_
            clear hK K
            refine wpAnyIn_ready (rs := [1, 2]) (by kernel_rfl) (by simp) (AllReadyIn.cons rfl (fun K hK => ?_) (AllReadyIn.cons rfl (fun K hK => ?_) AllReadyIn.nil))
            · go_simp
              refine hK _ _ ?_
              clear hK K
              refine wpAnyIn_ready (rs := [2]) (by kernel_rfl) (by simp) (AllReadyIn.cons rfl (fun K hK => ?_) AllReadyIn.nil)
              · go_simp
                refine hK _ _ ?_
                clear hK K
                refine wpAnyIn_ready (rs := [3]) (by kernel_rfl) (by simp) (AllReadyIn.cons rfl (fun K hK => ?_) AllReadyIn.nil)
                · go_simp
                  refine hK _ _ ?_
                  clear hK K
                  refine wpAnyIn_done (by kernel_rfl) ?_ _
                  gi_wp2
                  obtain ⟨x1, x2, x3, x4⟩ := err_world rfl hr23 hr33 (.slice none 0 0) (.int .i64 2) (.int .i64 ((pre.length : Int) + 1))
                  exact ⟨(hKW3.trans x3).from _, ⟨pre, x, out, 2, ⟨rfl, rfl, hst, by rw [stepP, if_neg hw0, HTB.out]; exact if_pos (.inl ht64)⟩, x1, by simpa using x2⟩, hBW3.trans x4⟩
            · go_simp
              refine hK _ _ ?_
              clear hK K
              refine wpAnyIn_ready (rs := [1]) (by kernel_rfl) (by simp) (AllReadyIn.cons rfl (fun K hK => ?_) AllReadyIn.nil)
              · go_simp
                refine hK _ _ ?_
                clear hK K
                refine wpAnyIn_ready (rs := [3]) (by kernel_rfl) (by simp) (AllReadyIn.cons rfl (fun K hK => ?_) AllReadyIn.nil)
                · go_simp
                  refine hK _ _ ?_
                  clear hK K
                  refine wpAnyIn_done (by kernel_rfl) ?_ _
                  gi_wp2
                  obtain ⟨x1, x2, x3, x4⟩ := err_world rfl hr23 hr33 (.slice none 0 0) (.int .i64 2) (.int .i64 ((pre.length : Int) + 1))
                  exact ⟨(hKW3.trans x3).from _, ⟨pre, x, out, 2, ⟨rfl, rfl, hst, by rw [stepP, if_neg hw0, HTB.out]; exact if_pos (.inl ht64)⟩, x1, by simpa using x2⟩, hBW3.trans x4⟩
          · go_simp
            refine hK _ _ ?_
            clear hK K
            refine wpAnyIn_ready (rs := [0]) (by kernel_rfl) (by simp) (AllReadyIn.cons rfl (fun K hK => ?_) AllReadyIn.nil)
            · go_simp
              refine hK _ _ ?_
              clear hK K
              refine wpAnyIn_ready (rs := [1]) (by kernel_rfl) (by simp) (AllReadyIn.cons rfl (fun K hK => ?_) AllReadyIn.nil)
              · go_simp
                refine hK _ _ ?_
                clear hK K
                refine wpAnyIn_ready (rs := [3]) (by kernel_rfl) (by simp) (AllReadyIn.cons rfl (fun K hK => ?_) AllReadyIn.nil)
                · go_simp
                  refine hK _ _ ?_
                  clear hK K
                  refine wpAnyIn_done (by kernel_rfl) ?_ _
                  gi_wp2
                  obtain ⟨x1, x2, x3, x4⟩ := err_world rfl hr23 hr33 (.slice none 0 0) (.int .i64 2) (.int .i64 ((pre.length : Int) + 1))
                  exact ⟨(hKW3.trans x3).from _, ⟨pre, x, out, 2, ⟨rfl, rfl, hst, by rw [stepP, if_neg hw0, HTB.out]; exact if_pos (.inl ht64)⟩, x1, by simpa using x2⟩, hBW3.trans x4⟩
        · have hv3c := hv3.cell
          have hv3f := hv3.frozen
          by_cases ho64 : out.length = 64
          · have ho : ((out.length : Int) == 64) = true := by rw [ho64]; rfl
            gi_wp2
            refine wpIn_region_round (F := Fence.wide) (by kernel_rfl) (by kernel_rfl) ?_
            refine wpAnyIn_ready (rs := [0, 2]) (by kernel_rfl) (by simp) (AllReadyIn.cons rfl (fun K hK => ?_) (AllReadyIn.cons rfl (fun K hK => ?_) AllReadyIn.nil))
            · go_simp
              refine hK _ _ ?_
              clear hK K
              refine wpAnyIn_ready (rs := [1, 2]) (by kernel_rfl) (by simp) (AllReadyIn.cons rfl (fun K hK => ?_) (AllReadyIn.cons rfl (fun K hK => ?_) AllReadyIn.nil))
              · go_simp
                refine hK _ _ ?_
                clear hK K
                refine wpAnyIn_ready (rs := [2]) (by kernel_rfl) (by simp) (AllReadyIn.cons rfl (fun K hK => ?_) AllReadyIn.nil)
                · go_simp
                  refine hK _ _ ?_
                  clear hK K
                  refine wpAnyIn_ready (rs := [3]) (by kernel_rfl) (by simp) (AllReadyIn.cons rfl (fun K hK => ?_) AllReadyIn.nil)
                  · go_simp
                    refine hK _ _ ?_
                    clear hK K
                    refine wpAnyIn_done (by kernel_rfl) ?_ _
                    gi_wp2
                    obtain ⟨x1, x2, x3, x4⟩ := err_world rfl hr23 hr33 (.slice none 0 0) (.int .i64 2) (.int .i64 ((pre.length : Int) + 1))
                    exact ⟨(hKW3.trans x3).from _, ⟨pre, x, out, 2, ⟨rfl, rfl, hst, by rw [stepP, if_neg hw0, HTB.out]; exact if_pos (.inr ho64)⟩, x1, by simpa using x2⟩, hBW3.trans x4⟩
              · go_simp
                refine hK _ _ ?_
                clear hK K
                refine wpAnyIn_ready (rs := [1]) (by kernel_rfl) (by simp) (AllReadyIn.cons rfl (fun K hK => ?_) AllReadyIn.nil)
                · go_simp
                  refine hK _ _ ?_
                  clear hK K
                  refine wpAnyIn_ready (rs := [3]) (by kernel_rfl) (by simp) (AllReadyIn.cons rfl (fun K hK => ?_) AllReadyIn.nil)
                  · go_simp
                    refine hK _ _ ?_
                    clear hK K
                    refine wpAnyIn_done (by kernel_rfl) ?_ _
                    gi_wp2
                    obtain ⟨x1, x2, x3, x4⟩ := err_world rfl hr23 hr33 (.slice none 0 0) (.int .i64 2) (.int .i64 ((pre.length : Int) + 1))
                    exact ⟨(hKW3.trans x3).from _, ⟨pre, x, out, 2, ⟨rfl, rfl, hst, by rw [stepP, if_neg hw0, HTB.out]; exact if_pos (.inr ho64)⟩, x1, by simpa using x2⟩, hBW3.trans x4⟩
            · go_simp
              refine hK _ _ ?_
              clear hK K
              refine wpAnyIn_ready (rs := [0]) (by kernel_rfl) (by simp) (AllReadyIn.cons rfl (fun K hK => ?_) AllReadyIn.nil)
              · go_simp
                refine hK _ _ ?_
                clear hK K
                refine wpAnyIn_ready (rs := [1]) (by kernel_rfl) (by simp) (AllReadyIn.cons rfl (fun K hK => ?_) AllReadyIn.nil)
                · go_simp
                  refine hK _ _ ?_
                  clear hK K
                  refine wpAnyIn_ready (rs := [3]) (by kernel_rfl) (by simp) (AllReadyIn.cons rfl (fun K hK => ?_) AllReadyIn.nil)
                  · go_simp
                    refine hK _ _ ?_
                    clear hK K
                    refine wpAnyIn_done (by kernel_rfl) ?_ _
                    gi_wp2
                    obtain ⟨x1, x2, x3, x4⟩ := err_world rfl hr23 hr33 (.slice none 0 0) (.int .i64 2) (.int .i64 ((pre.length : Int) + 1))
                    exact ⟨(hKW3.trans x3).from _, ⟨pre, x, out, 2, ⟨rfl, rfl, hst, by rw [stepP, if_neg hw0, HTB.out]; exact if_pos (.inr ho64)⟩, x1, by simpa using x2⟩, hBW3.trans x4⟩
          · have ho : ((out.length : Int) == 64) = false := beq_eq_false_iff_ne.2 (by omega)
            have hpre : pre.length < s.size + 1 := hlt
            have hne3 : ∀ k, (.slice A0 out.length c0 : Value).ownBlock = some k → k < W1.heap.size ∧ w.heap.size + 1 + 1 + 1 + 1 + 1 + 1 ≤ k := fun k hk => ⟨(Kd.S_R hS3).1 k hk, Kd.S_base hS3 k hk⟩
            have hbase : w.heap.size + 1 + 1 + 1 + 1 + 1 + 1 ≤ W1.heap.size := by have := hb21.lt; omega
            have hW13 := HT.out.size
            have HNE := Aside0.mk hne3
            have HS3 := Aside0.mk hS3
            clear hne3 hS3
            gi_wp2_with (gi_at_builtin; refine S_appendIn (Kd.slice 9 Kd.string) (w.heap.size + 1 + 1 + 1 + 1 + 1 + 1) rfl (.tmp 43) (.tmp 45) 23 34 (.slice none 0 0) 24 rfl Try.underlying23 info34 rfl (by decide) (by omega) (.slice A0 out.length c0) out t [.slice At t.length ct] (fun _ => True) (fun k => W1.heap.size ≤ k) rfl rfl ⟨_, rfl, Kd.R_lower HRT.out hbase⟩ (fun k hk => ⟨trivial, fun e => by have := (HNE.out k e.symm).1; omega⟩) (fun _ _ => trivial) (Kd.S_mono HS3.out (fun k hk => ⟨trivial, by omega⟩)) (by omega) (by omega) ?_; rintro v1 w1 hS4 hg4 ⟨g4, cap4, rfl⟩; obtain ⟨hk4, hb4⟩ := S_keeps HS3.out (by omega) hg4; have hv4 : Boxed w1 (w.heap.size + 1 + 1) 23 (.slice A0 out.length c0) := (hb4.block _ (by omega)).trans hv3; have hv4c := hv4.cell; have hv4f := hv4.frozen; have HS4 := Aside0.mk hS4; clear hS4; have HK4 := Aside0.mk hk4; have HB4 := Aside0.mk hb4; clear hk4 hb4 hg4)
            have hb14 : Boxed w1 (w.heap.size + 1 + 1 + 1 + 1) 9 (.string s) := (HB4.out.block _ (by omega)).trans hb13
            have hb24 : Boxed w1 (w.heap.size + 1 + 1 + 1 + 1 + 1) 5 (.int .u8 10) := (HB4.out.block _ (by omega)).trans hb23
            have hat4 : Boxed w1 (w.heap.size + 1 + 1 + 1) 3 (.int .i64 ((pre.length : Int) + 1)) := (HB4.out.block _ (by omega)).trans hat3
            have hr24 : Boxed w1 w.heap.size 23 (.slice none 0 0) := (HB4.out.block _ (by omega)).trans hr23
            have hr34 : Blk w1 (w.heap.size + 1) 26 [.int .i64 0, .int .i64 0] := (HB4.out.block _ (by omega)).trans hr33
            have hb15 := hb14.other (B' := w.heap.size + 1 + 1) (by omega) (.slice (some ⟨g4, 0, none⟩) (out.length + 1) cap4)
            have hb25 := hb24.other (B' := w.heap.size + 1 + 1) (by omega) (.slice (some ⟨g4, 0, none⟩) (out.length + 1) cap4)
            have hat5 := hat4.other (B' := w.heap.size + 1 + 1) (by omega) (.slice (some ⟨g4, 0, none⟩) (out.length + 1) cap4)
            have hr25 := hr24.other (B' := w.heap.size + 1 + 1) (by omega) (.slice (some ⟨g4, 0, none⟩) (out.length + 1) cap4)
            have hr35 := blk_other (p := ⟨w.heap.size + 1 + 1, 0, none⟩) hr34 (by simp) (.slice (some ⟨g4, 0, none⟩) (out.length + 1) cap4)
            have hB5 : Below w.heap.size W3 (w1.setCell ⟨w.heap.size + 1 + 1, 0, none⟩ (.slice (some ⟨g4, 0, none⟩) (out.length + 1) cap4)) := (HB4.out.mono (by omega)).setCell (p := ⟨w.heap.size + 1 + 1, 0, none⟩) (by simp; omega) _
            have hstep : stepP out x.val = .inl (out ++ [t]) := by rw [stepP, if_neg hw0, HTB.out]; exact if_neg (by omega)
            refine ⟨((hKW3.trans HK4.out).trans (KeepsOthers.setCell _ _ _)).from _, ⟨hBWW3.trans hB5, fun _ => boxesOf_iff.2 ⟨hb15, hb25⟩⟩,
              ⟨⟨out ++ [t], _, ⟨by rw [List.map_append, List.map_cons, List.map_nil, stP_snoc, hst, Option.bind_some, hstep], by simp; omega⟩, hv4.set _, ?_⟩, by simpa using hat5, hr25, hr35, hb15, hb25⟩, hBW3.trans hB5⟩
            exact Kd.S_mono (Kd.S_far (Kd.S_bound HS4.out) (fun k hk => by have := hk.2.1; simp; omega) _) (fun _ _ => trivial)
  case done =>
    rintro D ys W hD hys ⟨⟨⟨out, v, ⟨hst, hol⟩, hv, hS⟩, hat, hr2, hr3, hb1, hb2⟩, hB⟩ hK
    obtain ⟨A0, c0, rfl⟩ := Kd.S_slice hS
    have hc := hv.cell
    have hr2c := hr2.cell
    have hr2f := hr2.frozen
    have hr3c0 : W.cell? ⟨w.heap.size + 1, 0, none⟩ = some (.int .i64 0) := by simp [World.cell?, show W.heap[w.heap.size + 1]? = _ from hr3]
    have hr3c1 : W.cell? ⟨w.heap.size + 1, 1, none⟩ = some (.int .i64 0) := by simp [World.cell?, show W.heap[w.heap.size + 1]? = _ from hr3]
    have hr3f0 : W.frozen? ⟨w.heap.size + 1, 0, none⟩ = false := by simp [World.frozen?, show W.heap[w.heap.size + 1]? = _ from hr3]
    have hr3f1 : W.frozen? ⟨w.heap.size + 1, 1, none⟩ = false := by simp [World.frozen?, show W.heap[w.heap.size + 1]? = _ from hr3]
    gi_wp2
    have hlb := hb2.lt
    have hD' : w.heap.size + 1 + 1 + 1 + 1 + 1 + 1 ≤ D := by simp at hD; omega
    obtain ⟨x1, x2, x3, x4⟩ := err_world rfl hr2 hr3 (.slice A0 out.length c0) (.int .i64 0) (.int .i64 0)
    have y1 : Boxed (((W.setCell ⟨w.heap.size, 0, none⟩ (.slice A0 out.length c0)).setCell ⟨w.heap.size + 1, 0, none⟩ (.int .i64 0)).setCell ⟨w.heap.size + 1, 1, none⟩ (.int .i64 0)) w.heap.size 23 (.slice A0 out.length c0) := x1
    have y2 : Blk (((W.setCell ⟨w.heap.size, 0, none⟩ (.slice A0 out.length c0)).setCell ⟨w.heap.size + 1, 0, none⟩ (.int .i64 0)).setCell ⟨w.heap.size + 1, 1, none⟩ (.int .i64 0)) (w.heap.size + 1) 26 [.int .i64 0, .int .i64 0] := x2
    have y4 : Below w.heap.size W (((W.setCell ⟨w.heap.size, 0, none⟩ (.slice A0 out.length c0)).setCell ⟨w.heap.size + 1, 0, none⟩ (.int .i64 0)).setCell ⟨w.heap.size + 1, 1, none⟩ (.int .i64 0)) := (((Below.refl _ W).setCell (p := ⟨w.heap.size, 0, none⟩) (by simp) _).setCell (p := ⟨w.heap.size + 1, 0, none⟩) (by simp) _).setCell (p := ⟨w.heap.size + 1, 1, none⟩) (by simp) _
    have yS : Kd.S (Kd.slice 9 Kd.string) 34 (((W.setCell ⟨w.heap.size, 0, none⟩ (.slice A0 out.length c0)).setCell ⟨w.heap.size + 1, 0, none⟩ (.int .i64 0)).setCell ⟨w.heap.size + 1, 1, none⟩ (.int .i64 0)) (w.heap.size + 1 + 1 + 1 + 1 + 1 + 1) (fun k => w.heap.size + 1 + 1 + 1 + 1 + 1 + 1 ≤ k) (.slice A0 out.length c0) out := by
      refine Kd.S_far (Kd.S_far (Kd.S_far (Kd.S_mono (Kd.S_bound hS) (fun k hk => hk.2.1)) (fun k hk => ?_) _) (fun k hk => ?_) _) (fun k hk => ?_) _ <;> (simp; omega)
    obtain ⟨X, hX⟩ : ∃ X, (((W.setCell ⟨w.heap.size, 0, none⟩ (.slice A0 out.length c0)).setCell ⟨w.heap.size + 1, 0, none⟩ (.int .i64 0)).setCell ⟨w.heap.size + 1, 1, none⟩ (.int .i64 0)) = X := ⟨_, rfl⟩
    have hKX : X.heap[D]? = some (.deferred (some [])) := by
      rw [← hX, Below.heap_setCell _ _ _ _ (by simp; omega), Below.heap_setCell _ _ _ _ (by simp; omega), Below.heap_setCell _ _ _ _ (by simp; omega)]
      exact hK
    rw [hX] at y1 y2 y4 yS ⊢
    refine ⟨by simp, .inl ⟨_, _, rfl, run_takeDeferred hKX, ?_⟩⟩
    have hne : ∀ k, k < w.heap.size + 1 + 1 + 1 + 1 + 1 + 1 → some k ≠ some D := fun k hk e => by cases e; omega
    have z1 := y1.kept (grownBy_putObj' X D (.deferred none)) (hne _ (by omega))
    have z2 : Blk (X.putObj D (.deferred none)) (w.heap.size + 1) 26 [.int .i64 0, .int .i64 0] := ((grownBy_putObj' X D (.deferred none)).block _ (Array.getElem?_eq_some_iff.1 y2).1 (hne _ (by omega))).trans y2
    have hpar : parseB s = (out, 0, 0) := by
      unfold parseB
      rw [← hys, ← List.append_nil (ys.map Part.val), parseGo_pre _ hst]
      rfl
    refine ⟨_, results_bc rfl _ _ _ _ _ _ _ _ _ _ rfl z1 Try.underlying23 rfl rfl z2 Try.underlying26 rfl (by kernel_rfl), _, by rw [hpar], ?_, ?_⟩
    · rw [hpar]
      exact S_putObj _ yS hKX rfl (by omega)
    · exact (hB.trans y4).trans (belowK_b (w := w) (Nat.le_refl _) X D _ _ (by omega) hKX rfl rfl)
  case stop =>
    rintro D c pre W hD hpre ⟨⟨q, x, out, e, ⟨rfl, hq, hst, hse⟩, hr2, hr3⟩, hB⟩ hK
    gi_wp2
    have hD' : w.heap.size + 1 + 1 + 1 + 1 + 1 + 1 ≤ D := by simp at hD; omega
    refine ⟨by simp, .inl ⟨_, _, rfl, run_takeDeferred hK, ?_⟩⟩
    have hne : ∀ k, k < w.heap.size + 1 + 1 + 1 + 1 + 1 + 1 → some k ≠ some D := fun k hk e => by cases e; omega
    have z1 := hr2.kept (grownBy_putObj' W D (.deferred none)) (hne _ (by omega))
    have z2 : Blk (W.putObj D (.deferred none)) (w.heap.size + 1) 26 [.int .i64 e, .int .i64 ((q.length + 1 : Nat) : Int)] := ((grownBy_putObj' W D (.deferred none)).block _ (Array.getElem?_eq_some_iff.1 hr3).1 (hne _ (by omega))).trans hr3
    have hpar : parseB s = ([], e, ((q.length + 1 : Nat) : Int)) := by
      obtain ⟨k, hk1, hk2, hk3⟩ := hpre
      obtain ⟨r, hr⟩ := parts_prefix (b := 10) hk1
      unfold parseB
      rw [hr, ← hk3, hq, List.map_append, List.append_assoc, parseGo_pre _ hst]
      show parseGo (x.val :: r) out _ = _
      rw [parseGo, hse, List.length_map]
    refine ⟨_, results_bc rfl _ _ _ _ _ _ _ _ _ _ rfl z1 Try.underlying23 rfl rfl z2 Try.underlying26 rfl (by kernel_rfl), _, by rw [hpar], ?_, ?_⟩
    · rw [hpar]
      exact Kd.S_nil _ _ _ _ _
    · exact hB.trans (belowK_b (w := w) (Nat.le_refl _) W D _ _ (by omega) hK rfl rfl)

set_option maxRecDepth 100000 in
set_option maxHeartbeats 4000000 in
theorem eventlog_Parse.big (n : Nat) (s : ByteArray) (hs : (s.size : Int) > 65536) (w : World) :
    CallsIn Fence.wide n Try.prog 10 #[.string s] w fun e W' => ∃ v0_ : Value, e = .returned (.tuple #[v0_, .agg #[.int .i64 2, .int .i64 0]]) ∧ Kd.S (Kd.slice 9 Kd.string) 34 W' w.heap.size (fun _ => True) v0_ ([] : List (List ByteArray)) ∧ Below w.heap.size w W' := by
  have g1 : decide ((65536 : Int) < (s.size : Int)) = true := decide_eq_true hs
  refine callsIn_of_wp_marks Try.func10 rfl trivial ?_ rfl
  simp only [Try.ntmps10, List.size_toArray, List.length_cons, List.length_nil, Nat.reduceAdd, Nat.reduceSub, Array.replicate_succ, Array.replicate_zero, List.push_toArray, List.append_toArray, List.nil_append, List.cons_append]
  gi_wp2
  have z1 := (Boxed.new w 23 (.slice none 0 0)).alloc (.cells #[.int .i64 2, .int .i64 0] 26)
  have z2 := World.alloc_heap_new (w.alloc (.cells #[.slice none 0 0] 23)) (.cells #[.int .i64 2, .int .i64 0] 26)
  rw [World.size_alloc] at z2
  exact ⟨_, results_bc rfl _ _ _ _ _ _ _ _ _ _ rfl z1 Try.underlying23 rfl rfl z2 Try.underlying26 rfl (by kernel_rfl), _, rfl, Kd.S_nil _ _ _ _ _, ((Below.refl _ w).alloc (Nat.le_refl _) _).alloc (by simp) _⟩

theorem eventlog_Parse.calls (a0 : ByteArray) (r1 : List (List ByteArray)) (r2 r3 : Int) (w : World) (h : eventlog_Parse.f a0 = some (r1, r2, r3)) :
    Calls Try.prog 10 #[.string a0] w fun e w' => ∃ v0_ : Value, e = .returned (.tuple #[v0_, .agg #[.int .i64 r2, .int .i64 r3]]) ∧ Kd.S (Kd.slice 9 Kd.string) 34 w' w.heap.size (fun _ => True) v0_ r1 ∧ Below w.heap.size w w' := by
  unfold eventlog_Parse.f at h
  split at h
  · rename_i hs
    simp only [Option.some.injEq, Prod.mk.injEq] at h
    obtain ⟨rfl, rfl, rfl⟩ := h
    exact (callsIn_wide (n := 4)).1 (eventlog_Parse.big 4 a0 hs w)
  · rename_i hs
    have h := Option.some.inj h
    refine (callsIn_wide (n := 4)).1 ((eventlog_Parse.in_ 4 (by omega) a0 (by omega) w).mono ?_)
    rw [h]
    rintro e W' ⟨v, rfl, hr, hb⟩
    exact ⟨v, rfl, hr, hb⟩

end Go.Proofs.Ytaofommgdgmncaa.Pr
