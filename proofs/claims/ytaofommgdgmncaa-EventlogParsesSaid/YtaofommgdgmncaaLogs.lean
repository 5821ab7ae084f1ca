/- What the functions of the reference of eventlog answer. -/
import Derived.Test.YtaofommgdgmncaaPr3
import Derived.Test.YtaofommgdgmncaaPr6
import Derived.Test.YtaofommgdgmncaaPr10
import Derived.Test.YtaofommgdgmncaaPr11
import Derived.Test.YtaofommgdgmncaaPr12
import Derived.Test.YtaofommgdgmncaaPr13
import Derived.Test.YtaofommgdgmncaaPr14
import Derived.Test.YtaofommgdgmncaaEv
import Derived.Test.YtaofommgdgmncaaParts
import Derived.Test.YtaofommgdgmncaaNames
namespace Go.Proofs.Ytaofommgdgmncaa.Logs
open Go.RowKit Go.Proofs.Ytaofommgdgmncaa.Pr Go.Proofs.Ytaofommgdgmncaa.Evs Go.Proofs.Ytaofommgdgmncaa.Parts Go.Proofs.Ytaofommgdgmncaa.Names Go.Proofs.YtaofommgdgmncaaW.PrintWords Go.Proofs.YtaofommgdgmncaaW.PrintLast Go.Proofs.YtaofommgdgmncaaW.PrintMore
set_option linter.unusedVariables false
set_option linter.unusedSimpArgs false

/-! ### names -/
theorem bt_byte {s : ByteArray} {i : Nat} (h : i < s.size) : bt s (i : Int) = (byteAt s i : Int) := by
  rw [byteAt_get s i h]
  simp [bt, h]
theorem name_l0 (s : ByteArray) (hs : s.size < 9223372036854775807) : ∀ (d i : Nat), i ≤ s.size → s.size - i = d → (∀ j, j < i → okB j (byteAt s j) = true) → Ev (fun k => petrinetref48_Name.l0 k s (i : Int)) (nameB s) := by
  intro d
  induction d with
  | zero =>
    intro i hi hd hok
    obtain rfl : i = s.size := by omega
    refine Ev.succ ?_
    simp only [petrinetref48_Name.l0]
    refine Ev.neg (by omega) ?_
    have hall : ((List.range s.size).all fun j => okB j (byteAt s j)) = true := by
      rw [List.all_eq_true]
      intro j hj
      exact hok j (List.mem_range.1 hj)
    by_cases h1 : (s.size : Int) ≥ 1
    · refine Ev.pos h1 (Ev.same (funext fun _ => ?_))
      unfold nameB
      rw [hall, Bool.and_true, decide_eq_true (show 1 ≤ s.size by omega), Bool.true_and]
      congr 1
      exact decide_eq_decide.2 (by omega)
    · refine Ev.neg h1 (Ev.same (funext fun _ => ?_))
      unfold nameB
      rw [decide_eq_false (show ¬ 1 ≤ s.size by omega)]
      rfl
  | succ d ih =>
    intro i hi hd hok
    have hlt : i < s.size := by omega
    have hb := bt_byte hlt
    obtain ⟨c, hc⟩ : ∃ c, byteAt s i = c := ⟨_, rfl⟩
    rw [hc] at hb
    have hgo : okB i c = true → Ev (fun k => petrinetref48_Name.l0 k s (wrap64 ((i : Int) + 1))) (nameB s) := by
      intro hk
      rw [wrap_succ (by omega)]
      refine ih (i + 1) (by omega) (by omega) (fun j hj => ?_)
      by_cases hji : j = i
      · subst hji; rw [hc]; exact hk
      · exact hok j (by omega)
    have hno : okB i c = false → nameB s = false := fun hk => nameB_false hlt (by rw [hc]; exact hk)
    have hstop : okB i c = false → Ev (fun _ : Nat => some false) (nameB s) := fun hk => by rw [hno hk]; exact Ev.now _
    refine Ev.succ ?_
    simp only [petrinetref48_Name.l0, hb]
    refine Ev.pos (by omega) (Ev.pos (by omega) ?_)
    have hnl : ¬ (97 ≤ c ∧ c ≤ 122) → ¬ c = 95 → Ev (fun k => if (i : Int) = 0 then some false else if (c : Int) = 46 then petrinetref48_Name.l0 k s (wrap64 ((i : Int) + 1)) else if (c : Int) < 48 then some false else if (c : Int) > 57 then some false else petrinetref48_Name.l0 k s (wrap64 ((i : Int) + 1))) (nameB s) := by
      intro h1 h2
      by_cases h0 : (i : Int) = 0
      · exact Ev.pos h0 (hstop (okB_not (by omega)))
      · refine Ev.neg h0 ?_
        by_cases h46 : (c : Int) = 46
        · exact Ev.pos h46 (hgo (okB_of (by omega)))
        · refine Ev.neg h46 ?_
          by_cases h48 : (c : Int) < 48
          · exact Ev.pos h48 (hstop (okB_not (by omega)))
          · refine Ev.neg h48 ?_
            by_cases h57 : (c : Int) > 57
            · exact Ev.pos h57 (hstop (okB_not (by omega)))
            · exact Ev.neg h57 (hgo (okB_of (by omega)))
    by_cases h97 : (c : Int) ≥ 97
    · refine Ev.pos h97 ?_
      by_cases h122 : (c : Int) ≤ 122
      · exact Ev.pos h122 (hgo (okB_of (by omega)))
      · refine Ev.neg h122 ?_
        exact Ev.neg (by omega) (hnl (by omega) (by omega))
    · refine Ev.neg h97 ?_
      by_cases h95 : (c : Int) = 95
      · exact Ev.pos h95 (hgo (okB_of (by omega)))
      · exact Ev.neg h95 (hnl (by omega) (by omega))
theorem rname (s : ByteArray) (hs : s.size < 9223372036854775807) : Ev (fun k => petrinetref48_Name.f k s) (nameB s) := name_l0 s hs s.size 0 (by omega) (by omega) (fun _ h => by omega)

/-! ### parts and words -/
theorem cut_bt {s : ByteArray} {b : Int} {k : Nat} (h : k < s.size) : cutAt s b k = decide (bt s (k : Int) = b) := by
  rw [cut_get h]
  simp only [bt, Int.toNat_natCast, h, dif_pos]
  cases h9 : (((s[k]'h).toNat : Int) == b) with
  | true => exact (decide_eq_true (eq_of_beq h9)).symm
  | false => exact (decide_eq_false (beq_eq_false_iff_ne.1 h9)).symm
theorem split_l0 (s : ByteArray) (b : Int) (hs : s.size ≤ 1099511627776) : ∀ (d k : Nat), k ≤ s.size + 1 → s.size + 1 - k = d → Ev (fun j => petrinetref04_Split.l0 j s b (pf s b k).1 ((pf s b k).2 : Int) (k : Int)) (partsOf s b) := by
  intro d
  induction d with
  | zero =>
    intro k hk hd
    obtain rfl : k = s.size + 1 := by omega
    refine Ev.succ ?_
    simp only [petrinetref04_Split.l0]
    exact Ev.neg (by omega) (Ev.now _)
  | succ d ih =>
    intro k hk hd
    have hfr := pf_from s b k
    have hln := pf_len s b k
    have hih := ih (k + 1) (by omega) (by omega)
    refine Ev.succ ?_
    simp only [petrinetref04_Split.l0]
    refine Ev.pos (by omega) ?_
    have hcut : cutAt s b k = true → Ev (fun j => if (0 : Int) ≤ ((pf s b k).2 : Int) then (if ((pf s b k).2 : Int) ≤ (k : Int) then (if (pf s b k).1.length < 8796093022208 then (petrinetref04_Split.l0 j s b ((pf s b k).1 ++ [s.extract ((pf s b k).2 : Int).toNat (k : Int).toNat]) (wrap64 ((k : Int) + 1)) (wrap64 ((k : Int) + 1))) else none) else none) else none) (partsOf s b) := by
      intro hc
      rw [pf_hit hc] at hih
      refine Ev.pos (by omega) (Ev.pos (by omega) (Ev.pos (by omega) ?_))
      rw [wrap_succ (by omega), Int.toNat_natCast, Int.toNat_natCast]
      exact hih
    by_cases he : (k : Int) = (s.size : Int)
    · obtain rfl : k = s.size := by omega
      exact Ev.pos rfl (hcut (cut_end s b))
    · refine Ev.neg he (Ev.pos (by omega) (Ev.pos (by omega) ?_))
      have hcb := cut_bt (b := b) (show k < s.size by omega)
      by_cases hb : bt s (k : Int) = b
      · exact Ev.pos hb (hcut (by rw [hcb]; exact decide_eq_true hb))
      · rw [decide_eq_false hb] at hcb
        refine Ev.neg hb ?_
        rw [pf_miss hcb] at hih
        rw [wrap_succ (by omega)]
        exact hih
theorem rsplit (s : ByteArray) (b : Int) (hs : s.size ≤ 1099511627776) : Ev (fun k => petrinetref04_Split.f k s b) (partsOf s b) := split_l0 s b hs _ 0 (by omega) rfl
theorem words_l0 (l : List ByteArray) (hl : l.length ≤ 1099511627777) : ∀ (d i : Nat), i ≤ l.length → l.length - i = d → Ev (fun k => petrinetref48_Words.l0 k l (wordsIn (l.take i)) (i : Int)) (wordsIn l) := by
  intro d
  induction d with
  | zero =>
    intro i hi hd
    obtain rfl : i = l.length := by omega
    refine Ev.succ ?_
    simp only [petrinetref48_Words.l0]
    refine Ev.neg (by omega) ?_
    rw [List.take_length]
    exact Ev.now _
  | succ d ih =>
    intro i hi hd
    have hlt : i < l.length := by omega
    have hih := ih (i + 1) (by omega) (by omega)
    rw [List.take_succ_eq_append_getElem hlt] at hih
    have hwl := wordsIn_len (l.take i)
    rw [List.length_take] at hwl
    refine Ev.succ ?_
    simp only [petrinetref48_Words.l0]
    refine Ev.pos (by omega) (Ev.pos (by omega) ?_)
    rw [rdOf_get hlt, wrap_succ (by omega)]
    by_cases he : l[i].toList = []
    · rw [wordsIn_miss _ (by rw [he]; rfl)] at hih
      exact Ev.pos he hih
    · rw [wordsIn_hit _ (by cases h : l[i].toList.isEmpty with | false => rfl | true => exact absurd (List.isEmpty_iff.1 h) he)] at hih
      exact Ev.neg he (Ev.pos (by omega) hih)
theorem rwords (s : ByteArray) (hs : s.size ≤ 1099511627776) : Ev (fun k => petrinetref48_Words.f k s) (wordsOf s) := by
  unfold petrinetref48_Words.f
  refine Ev.bind (rsplit s 32 hs) ?_
  exact words_l0 (partsOf s 32) (Nat.le_trans (pf_len s 32 (s.size + 1)) (by omega)) _ 0 (by omega) rfl

/-! ### equal lists of lists -/
theorem bytes_eq (a b : ByteArray) : a.toList = b.toList ↔ a = b := by
  rw [ByteArray.toList_eq, ByteArray.toList_eq]
  constructor
  · intro h
    have := Array.toList_inj.1 h
    cases a; cases b; simp at this; rw [this]
  · rintro rfl; rfl
theorem same_l0 (a b : List ByteArray) (hab : a.length = b.length) (hl : a.length < 9223372036854775807) : ∀ (d i : Nat), i ≤ a.length → a.length - i = d → a.take i = b.take i → Ev (fun k => petrinetref48_Same.l0 k a b (i : Int)) (decide (a = b)) := by
  intro d
  induction d with
  | zero =>
    intro i hi hd he
    obtain rfl : i = a.length := by omega
    refine Ev.succ ?_
    simp only [petrinetref48_Same.l0]
    refine Ev.neg (by omega) ?_
    rw [List.take_length, hab, List.take_length] at he
    rw [decide_eq_true he]
    exact Ev.now _
  | succ d ih =>
    intro i hi hd he
    have hlt : i < a.length := by omega
    have hlb : i < b.length := by omega
    refine Ev.succ ?_
    simp only [petrinetref48_Same.l0]
    refine Ev.pos (by omega) (Ev.pos (by omega) (Ev.pos (by omega) ?_))
    rw [rdOf_get hlt, rdOf_get hlb, wrap_succ (by omega)]
    by_cases h : a[i] = b[i]
    · exact Ev.pos ((bytes_eq _ _).2 h) (ih (i + 1) (by omega) (by omega) (by rw [List.take_succ_eq_append_getElem hlt, List.take_succ_eq_append_getElem hlb, he, h]))
    · rw [decide_eq_false (fun e => h (by simp [e]))]
      exact Ev.neg (fun e => h ((bytes_eq _ _).1 e)) (Ev.now _)
theorem rsame (a b : List ByteArray) (hl : a.length < 9223372036854775807) : Ev (fun k => petrinetref48_Same.f k a b) (decide (a = b)) := by
  unfold petrinetref48_Same.f
  by_cases h : a.length = b.length
  · exact Ev.pos (by omega) (same_l0 a b h hl _ 0 (by omega) rfl rfl)
  · rw [decide_eq_false (fun e => h (by rw [e]))]
    exact Ev.neg (by omega) (Ev.now _)
theorem rd_L1_get {l : List (List ByteArray)} {i : Nat} (h : i < l.length) : rd_L1 l (i : Int) = l[i] := by simp [rd_L1, h]
theorem equal_l0 (a b : List (List ByteArray)) (hab : a.length = b.length) (hl : a.length < 9223372036854775807) (hm : ∀ t ∈ a, t.length < 9223372036854775807) : ∀ (d i : Nat), i ≤ a.length → a.length - i = d → a.take i = b.take i → Ev (fun k => petrinetref48_Equal.l0 k a b (i : Int)) (decide (a = b)) := by
  intro d
  induction d with
  | zero =>
    intro i hi hd he
    obtain rfl : i = a.length := by omega
    refine Ev.succ ?_
    simp only [petrinetref48_Equal.l0]
    refine Ev.neg (by omega) ?_
    rw [List.take_length, hab, List.take_length] at he
    rw [decide_eq_true he]
    exact Ev.now _
  | succ d ih =>
    intro i hi hd he
    have hlt : i < a.length := by omega
    have hlb : i < b.length := by omega
    refine Ev.succ ?_
    simp only [petrinetref48_Equal.l0]
    refine Ev.pos (by omega) (Ev.pos (by omega) (Ev.pos (by omega) ?_))
    rw [rd_L1_get hlt, rd_L1_get hlb, wrap_succ (by omega)]
    refine Ev.bind (rsame a[i] b[i] (hm _ (List.getElem_mem hlt))) ?_
    by_cases h : a[i] = b[i]
    · exact Ev.pos (decide_eq_true h) (ih (i + 1) (by omega) (by omega) (by rw [List.take_succ_eq_append_getElem hlt, List.take_succ_eq_append_getElem hlb, he, h]))
    · rw [decide_eq_false (show ¬ a = b from fun e => h (by simp [e]))]
      exact Ev.neg (by simpa using h) (Ev.now _)
theorem requal (a b : List (List ByteArray)) (hl : a.length < 9223372036854775807) (hm : ∀ t ∈ a, t.length < 9223372036854775807) : Ev (fun k => petrinetref48_Equal.f k a b) (decide (a = b)) := by
  unfold petrinetref48_Equal.f
  by_cases h : a.length = b.length
  · exact Ev.pos (by omega) (equal_l0 a b h hl hm _ 0 (by omega) rfl rfl)
  · rw [decide_eq_false (fun e => h (by rw [e]))]
    exact Ev.neg (by omega) (Ev.now _)

/-! ### Parse -/
theorem words_mem {s y : ByteArray} (h : y ∈ wordsOf s) : y.size ≤ s.size := parts_mem (List.mem_filter.1 h).1
theorem parse_l1 (lines : List ByteArray) (out : List (List ByteArray)) (i : Nat) (ws : List ByteArray) (hi : i < 9223372036854775807) (ho : out.length ≤ 1099511627777) (hw : ws.length ≤ 1099511627777) (hm : ∀ y ∈ ws, y.size < 9223372036854775807) (R : List (List ByteArray) × Int × Int)
    (h11 : ws.all nameB = false → R = ([], 11, ((i + 1 : Nat) : Int))) (h2 : ws.all nameB = true → (64 < ws.length ∨ out.length = 64) → R = ([], 2, ((i + 1 : Nat) : Int)))
    (hgo : ws.all nameB = true → ¬ (64 < ws.length ∨ out.length = 64) → Ev (fun k => petrinetref48_Parse.l0 k lines (out ++ [ws]) ((i + 1 : Nat) : Int)) R) :
    ∀ (d q : Nat), q ≤ ws.length → ws.length - q = d → (ws.take q).all nameB = true → Ev (fun k => petrinetref48_Parse.l1 k lines out (i : Int) ws (q : Int)) R := by
  intro d
  induction d with
  | zero =>
    intro q hq hd hok
    obtain rfl : q = ws.length := by omega
    rw [List.take_length] at hok
    refine Ev.succ ?_
    simp only [petrinetref48_Parse.l1]
    refine Ev.neg (by omega) ?_
    rw [wrap_succ hi]
    by_cases h64 : (ws.length : Int) > 64
    · rw [h2 hok (.inl (by omega))]; exact Ev.pos h64 (Ev.now _)
    · refine Ev.neg h64 ?_
      by_cases ho64 : (out.length : Int) = 64
      · rw [h2 hok (.inr (by omega))]; exact Ev.pos ho64 (Ev.now _)
      · exact Ev.neg ho64 (Ev.pos (by omega) (hgo hok (by omega)))
  | succ d ih =>
    intro q hq hd hok
    have hlt : q < ws.length := by omega
    refine Ev.succ ?_
    simp only [petrinetref48_Parse.l1]
    refine Ev.pos (by omega) (Ev.pos (by omega) ?_)
    rw [rdOf_get hlt, wrap_succ (by omega), wrap_succ hi]
    refine Ev.bind (rname ws[q] (hm _ (List.getElem_mem hlt))) ?_
    cases hn : nameB ws[q] with
    | true => exact Ev.pos rfl (ih (q + 1) (by omega) (by omega) (by rw [List.take_succ_eq_append_getElem hlt, List.all_append, hok]; simp [hn]))
    | false =>
      have hall : ws.all nameB = false := by
        rw [List.all_eq_false]
        exact ⟨_, List.getElem_mem hlt, by simp [hn]⟩
      rw [h11 hall]
      exact Ev.neg (by decide) (Ev.now _)
theorem parse_l0 (lines : List ByteArray) (hl : lines.length ≤ 1099511627777) (hm : ∀ x ∈ lines, x.size ≤ 1099511627776) : ∀ (d i : Nat), i ≤ lines.length → lines.length - i = d → ∀ out : List (List ByteArray), out.length ≤ i → Ev (fun k => petrinetref48_Parse.l0 k lines out (i : Int)) (parseGo (lines.drop i) out i) := by
  intro d
  induction d with
  | zero =>
    intro i hi hd out ho
    obtain rfl : i = lines.length := by omega
    refine Ev.succ ?_
    simp only [petrinetref48_Parse.l0]
    refine Ev.neg (by omega) ?_
    rw [List.drop_length]
    exact Ev.now _
  | succ d ih =>
    intro i hi hd out ho
    have hlt : i < lines.length := by omega
    have hx := hm _ (List.getElem_mem hlt)
    refine Ev.succ ?_
    simp only [petrinetref48_Parse.l0]
    refine Ev.pos (by omega) (Ev.pos (by omega) ?_)
    rw [rdOf_get hlt, wrap_succ (by omega), List.drop_eq_getElem_cons hlt]
    obtain ⟨x, hxe⟩ : ∃ x, lines[i] = x := ⟨_, rfl⟩
    rw [hxe] at hx ⊢
    refine Ev.bind (rwords x hx) ?_
    have hwl := words_len x
    have hsm : ∀ {ws : List ByteArray}, ws.length ≤ 1099511627777 → (∀ y ∈ ws, y.size < 9223372036854775807) → (h0 : ¬ wordsOf x = []) → (traceB (wordsOf x) = if ws.all nameB then some ws else none) → Ev (fun k => petrinetref48_Parse.l1 k lines out (i : Int) ws ((0 : Nat) : Int)) (parseGo (x :: lines.drop (i + 1)) out i) := by
      intro ws h1 h2 h0 ht
      refine parse_l1 lines out i ws (by omega) (by omega) h1 h2 _ ?_ ?_ ?_ _ 0 (by omega) rfl rfl
      · intro hn
        rw [hn] at ht
        rw [parseGo, stepP, if_neg h0, ht]
        rfl
      · intro hn hb
        rw [hn] at ht
        rw [parseGo, stepP, if_neg h0, ht]
        simp only [if_true]
        rw [if_pos hb]
      · intro hn hb
        rw [hn] at ht
        rw [parseGo, stepP, if_neg h0, ht]
        simp only [if_true]
        rw [if_neg hb]
        exact ih (i + 1) (by omega) (by omega) _ (by simp; omega)
    by_cases h0 : wordsOf x = []
    · refine Ev.pos (by rw [h0]; rfl) ?_
      rw [parseGo, stepP, if_pos h0]
      exact ih (i + 1) (by omega) (by omega) out (by omega)
    · have hlp : 0 < (wordsOf x).length := List.length_pos_iff.2 h0
      refine Ev.neg (by omega) ?_
      have hmem : ∀ y ∈ wordsOf x, y.size < 9223372036854775807 := fun y hy => by have := words_mem hy; omega
      have hfull : ¬ (wordsOf x).map (·.toList) = [[45]] → Ev (fun k => petrinetref48_Parse.l1 k lines out (i : Int) (wordsOf x) ((0 : Nat) : Int)) (parseGo (x :: lines.drop (i + 1)) out i) := fun h => hsm (by omega) hmem h0 (by rw [traceB, if_neg h])
      by_cases h1 : ((wordsOf x).length : Int) = 1
      · obtain ⟨y, hy⟩ : ∃ y, wordsOf x = [y] := by
          match hw : wordsOf x with
          | [] => exact absurd hw h0
          | [y] => exact ⟨y, rfl⟩
          | _ :: _ :: _ => rw [hw] at h1; simp at h1; omega
        refine Ev.pos h1 (Ev.pos (by omega) ?_)
        have hr : rdOf ByteArray.empty (wordsOf x) 0 = y := by rw [hy]; rfl
        rw [hr]
        refine Ev.succ ?_
        simp only [petrinetref48_Parse.j1]
        by_cases hd45 : y.toList = [45]
        · refine Ev.pos (by rw [hd45]; rfl) (Ev.succ ?_)
          simp only [petrinetref48_Parse.j2]
          exact hsm (ws := []) (by simp) (fun _ h => by simp at h) h0 (by rw [traceB, if_pos (by rw [hy]; simp [hd45])]; rfl)
        · refine Ev.neg (by simpa using hd45) (Ev.succ ?_)
          simp only [petrinetref48_Parse.j2]
          exact hfull (by rw [hy]; simpa using hd45)
      · refine Ev.neg h1 (Ev.succ ?_)
        simp only [petrinetref48_Parse.j1]
        refine Ev.neg (by decide) (Ev.succ ?_)
        simp only [petrinetref48_Parse.j2]
        exact hfull (fun e => h1 (by have := congrArg List.length e; simp at this; omega))
theorem rparse (s : ByteArray) : ∃ r, eventlog_Parse.f s = some r ∧ Ev (fun k => petrinetref48_Parse.f k s) r := by
  unfold eventlog_Parse.f petrinetref48_Parse.f
  by_cases h : (s.size : Int) > 65536
  · exact ⟨_, if_pos h, Ev.pos h (Ev.now _)⟩
  · refine ⟨_, if_neg h, Ev.neg h (Ev.bind (rsplit s 10 (by omega)) ?_)⟩
    have := parse_l0 (partsOf s 10) (Nat.le_trans (pf_len s 10 (s.size + 1)) (by omega)) (fun x hx => by have := parts_mem hx; omega) _ 0 (by omega) rfl [] (by simp)
    exact this
/-- Every trace of a log that Parse tells is short, and so is the log. -/
theorem stepP_small {out o' : List (List ByteArray)} {x : ByteArray} (h : stepP out x = .inl o') (ho : out.length ≤ 64 ∧ ∀ t ∈ out, t.length ≤ 64) : o'.length ≤ 64 ∧ ∀ t ∈ o', t.length ≤ 64 := by
  unfold stepP at h
  split at h
  · cases h; exact ho
  · split at h
    · cases h
    · split at h
      · cases h
      · rename_i t _ hb
        cases h
        refine ⟨by simp; omega, fun u hu => ?_⟩
        rcases List.mem_append.1 hu with h | h
        · exact ho.2 u h
        · rw [List.mem_singleton.1 h]; omega
theorem parseGo_small : ∀ (ls : List ByteArray) (out : List (List ByteArray)) (i : Nat), (out.length ≤ 64 ∧ ∀ t ∈ out, t.length ≤ 64) → (parseGo ls out i).1.length ≤ 64 ∧ ∀ t ∈ (parseGo ls out i).1, t.length ≤ 64
  | [], out, i, h => h
  | x :: ls, out, i, h => by
    rw [parseGo]
    cases hs : stepP out x with
    | inl o' => exact parseGo_small ls o' (i + 1) (stepP_small hs h)
    | inr e => exact ⟨by simp, by simp⟩
theorem parse_small {s : ByteArray} {r : List (List ByteArray) × Int × Int} (h : eventlog_Parse.f s = some r) : r.1.length ≤ 64 ∧ ∀ t ∈ r.1, t.length ≤ 64 := by
  unfold eventlog_Parse.f at h
  split at h
  · cases h; exact ⟨by simp, by simp⟩
  · cases h; exact parseGo_small _ [] 0 ⟨by simp, by simp⟩
end Go.Proofs.Ytaofommgdgmncaa.Logs
