/- Functions that the statement reaches: what each answers, and that the program answers it (written by a program of this work). -/
import Derived.Test.YtapkjfnfkalibaaProg
import Derived.Below
import Derived.Deep.Draws
import Derived.Deep.AppendLies
import Derived.Maps.AppendAt
import Derived.OwnWalk
import Derived.Laws.BytesArg
import Derived.Laws.MakeOwn
import Derived.Laws.OwnMore
import Derived.Deep.OwnRows
import Derived.Tactics
import Derived.Lib.ConvBytes
import Derived.Laws.Slices
import Derived.WalkKit
import Derived.KernelRfl
import Derived.RowKit3
import Derived.Deep.LoopGhost
import Derived.Deep.QuietTactic
import Derived.BigQuiet
import Derived.WideLaws
import Derived.Deep.DeepCutAuto
import Derived.Deep.CutBlock
import Derived.Deep.RegionHeld3
import Derived.Laws.Rows
import Derived.Lib.AppendStr
import Derived.ArgAppend
import Derived.Laws.IdiomCopy
import Derived.OrdersHeld
import Derived.Laws.BitsLemmas
import Derived.RowKit
import Derived.WalkMore
import Derived.Test.YtapkjfnfkalibaaVBindingTerms
import Derived.Test.YtapkjfnfkalibaaBBindingTerms
import Derived.Sort.QuietIn
import Derived.Sort.LoopGhostIn
import Derived.Shelf.RegionOpen
import Derived.Test.YtapkjfnfkalibaaQBindingTerms0
import Derived.Test.YtapkjfnfkalibaaQBindingTerms1
namespace Go.Proofs.Ytapkjfnfkalibaa.Pr
open Go.RowKit Go.Proofs.YtapkjfnfkalibaaW.PrintWords Go.Proofs.YtapkjfnfkalibaaW.PrintLast Go.Proofs.YtapkjfnfkalibaaW.PrintMore
attribute [local go_sem] Instr.field asAgg
attribute [local go_sem] max2_int min2_int max_two min_two max_three min_three max_four min_four   -- for this text's walks alone
set_option linter.unusedVariables false
set_option linter.unusedSimpArgs false
section
-- STUBBED 24
/-! ### binding_All: function 24: by hand -/
open Go.Shelf Go.Proofs.Ytapkjfnfkalibaa.Iter
attribute [local go_sem] Oper.semAt_some

/-- The size of the color set of the j-th variable, where there is one. -/
def setOf (l0 : List S51) (vs : List S48) (j : Nat) : Int := ((rd_T51 l0 (rd_T48 vs (j : Int)).f1).f1.length : Int)
def inSets (l0 : List S51) (vs : List S48) (j : Nat) : Bool := decide (0 ≤ (rd_T48 vs (j : Int)).f1) && decide ((rd_T48 vs (j : Int)).f1 < (l0.length : Int))
/-- The next list of colors: the last one that is not at its end is one later; those behind it begin again. -/
def carry (l0 : List S51) (vs : List S48) : Nat → List Int → Option (Option (List Int))
 | 0, _ => some none
 | j + 1, b => if inSets l0 vs j = true then (if rd b (j : Int) = wrap64 (setOf l0 vs j - 1) then carry l0 vs j (b.set j 0) else some (some (b.set j (wrap64 (rd b (j : Int) + 1))))) else none
def seqB (l0 : List S51) (vs : List S48) : Nat → List Int → Option (List (List Int))
 | 0, _ => none
 | k + 1, b => (carry l0 vs vs.length b).bind fun | none => some [b] | some b' => (seqB l0 vs k b').map (b :: ·)
def okG (m : Nat) (g : S62) : Bool := decide ((0 ≤ g.f1 ∧ g.f1 < (m : Int)) ∧ 0 ≤ g.f2 ∧ g.f2 < (m : Int))
def binding_All.f (l0 : List S51) (a1_0 : ByteArray) (l1_1 : List S48) (l1_2 : List S62) (l1_3 : List S111) (l1_4 : List S111) : Option (List (List Int)) :=
 (binding_Check.f l0 a1_0 l1_1 l1_2 l1_3 l1_4).bind fun e => if e ≠ 0 then some [] else if l1_1.length ≤ 1000 then
  (seqB l0 l1_1 100000 (List.replicate l1_1.length 0)).bind fun zs => if zs.length ≤ 100000 ∧ l1_2.length ≤ 1000 ∧ l1_2.all (okG l1_1.length) = true then some (zs.filter fun b => binding_holds.f a1_0 l1_1 l1_2 l1_3 l1_4 b == some true) else none
  else none

theorem intRow_set {e B : Nat} {b : List Int} {W : World} (h : IntRow e B b W) (i : Nat) (x : Int) : IntRow e B (b.set i x) (W.setCell ⟨B, i, none⟩ (.int .i64 x)) := by
 have h2 := blk_set i (.int .i64 x) (show Blk W B e (b.map (Value.int .i64)) from h)
 rw [← List.map_set] at h2
 exact h2
theorem intRow_cell {e B : Nat} {b : List Int} {W : World} (h : IntRow e B b W) {i : Nat} (hi : i < b.length) : W.cell? ⟨B, i, none⟩ = some (.int .i64 (rd b (i : Int))) ∧ W.frozen? ⟨B, i, none⟩ = false := by
 constructor
 ·simp [World.cell?, show W.heap[B]? = _ from h, rd, hi]
 ·simp [World.frozen?, show W.heap[B]? = _ from h]
theorem intRow_later {e B : Nat} {b : List Int} {W W' : World} (h : IntRow e B b W) {row : Option Nat} (hg : W.grownBy W' row) (hr : row ≠ some B) : IntRow e B b W' := (hg.block B (Array.getElem?_eq_some_iff.1 h).1 (fun e => hr e.symm)).trans h
theorem made_ints (m : Nat) : madeCells (Value.int .i64 0).cells (m * 1) = ((List.replicate m (0 : Int)).map (Value.int .i64)).toArray := by
 rw [Nat.mul_one, List.map_replicate]
 apply Array.ext'
 simp [madeCells, Value.cells, Nat.mod_one, List.map_const']
theorem make_rowIn {F : Fence} {n : Nat} {P : Program} {w : World} {ops : Array Oper} {rest : List Oper} {o : Oper} {a : Act} {Q : Exit → Act → World → Prop}
  (hg : o.guard = none) (l : Operand) (t e : TypeId) (hop : o.op = Op.makeSlice t l l) (h1 : P.underlying t = some (.slice e)) (hinfo : (P.info? e).map (fun i => (i.zero, i.size, i.bytes)) = some (some (.int .i64 0), 1, 8))
  (m : Nat) (hl : a.eval l = .int .i64 (m : Int)) (hm : m ≤ 1000)
  (hK : ∀ w', IntRow e w.heap.size (List.replicate m (0 : Int)) w' → w.grownBy w' none → wpListIn F n P ops Q rest (a.put o.dst (.slice (some ⟨w.heap.size, 0, none⟩) m m)) w') :
  wpListIn F n P ops Q (o :: rest) a w := by
 obtain ⟨i0, hi, hzz⟩ := Option.map_eq_some_iff.1 hinfo
 simp only [Prod.mk.injEq] at hzz
 obtain ⟨hz0, hz1, hz2⟩ := hzz
 refine wpListIn_plain hg fun K hK' => ?_
 have hrun := run_make (P := P) (w := w) t e i0 _ h1 hi hz0 .i64 .i64 (m : Int) (m : Int) (by omega) (Int.le_refl _) (by rw [hz2]; omega) (by omega)
 rw [Int.toNat_natCast, hz1, made_ints] at hrun
 unfold Oper.wpIn
 refine ⟨?_, ?_⟩
 ·simp [Oper.about, hop]
 ·rw [Oper.semAt_plain F _ _ (by rw [hop]; intro c hc'; cases hc')]
  simp [execOp, hop, hl, hrun, Result.andThen]
  exact hK' _ _ (hK _ (by have h_ := World.alloc_heap_new w (.cells ((List.replicate m (0 : Int)).map (Value.int .i64)).toArray e); simpa [IntRow] using h_) (World.grownBy_alloc w _ none))

/-- The two boxes that the closure holds. -/
def Cap (T Sb : Nat) (cs : List Value) (v : Value) (W : World) : Prop := Blk W T 27 cs ∧ Boxed W Sb 22 v
def KpC (n₀ T Sb : Nat) (cs : List Value) (v : Value) (W W' : World) : Prop := Below n₀ W W' ∧ (Cap T Sb cs v W → Cap T Sb cs v W')
theorem kpC_t {n₀ T Sb : Nat} {cs : List Value} {v : Value} {X Y Z : World} (h : KpC n₀ T Sb cs v X Y) (k : KpC n₀ T Sb cs v Y Z) : KpC n₀ T Sb cs v X Z := ⟨h.1.trans k.1, fun b => k.2 (h.2 b)⟩
theorem blk_putObj {W : World} {B : Nat} {t : TypeId} {cs : List Value} (b : Blk W B t cs) {l : Nat} {o : Obj} (o' : Obj) (h : W.heap[l]? = some o) (hc : o.isCells = false) : Blk (W.putObj l o') B t cs := by
 refine ((grownBy_putObj' W l o').block B (Array.getElem?_eq_some_iff.1 b).1 ?_).trans b
 intro e
 cases e
 have b' : W.heap[B]? = some (.cells cs.toArray t (0, 0)) := b
 rw [b'] at h; cases h
 simp [Obj.isCells] at hc
theorem kpC_b {n₀ T Sb : Nat} {cs : List Value} {v : Value} {w : World} (hn : n₀ ≤ w.heap.size) (W : World) (l : Nat) (o o' : Obj) (hl : w.heap.size ≤ l) (h : W.heap[l]? = some o) (hc : o.isCells = false) (hw : o.isWalk = false) : KpC n₀ T Sb cs v W (W.putObj l o') :=
 ⟨belowK_b hn W l o o' hl h hc hw, fun b => ⟨blk_putObj b.1 o' h hc, boxed_putObj b.2 o' h hc⟩⟩
theorem cap_grown {T Sb : Nat} {cs : List Value} {v : Value} {W W' : World} {row : Option Nat} (h : Cap T Sb cs v W) (hg : W.grownBy W' row) (hT : row ≠ some T) (hS : row ≠ some Sb) : Cap T Sb cs v W' :=
 ⟨(hg.block T (Array.getElem?_eq_some_iff.1 h.1).1 (fun e => hT e.symm)).trans h.1, (hg.block Sb h.2.lt (fun e => hS e.symm)).trans h.2⟩
theorem below_grown' {n₀ : Nat} {W W' : World} {B : Nat} (hg : W.grownBy W' (some B)) (hB : n₀ ≤ B) (h : n₀ ≤ W.heap.size) : Below n₀ W W' := (Below.refl n₀ W).grown hg h (fun k e => by cases e; exact hB)
theorem cap_cells {T Sb : Nat} {a : Value} {y z u x v : Value} {W : World} (h : Cap T Sb [a, y, z, u, x] v W) : W.cell? ⟨T, 1, none⟩ = some y ∧ W.cell? ⟨Sb, 0, none⟩ = some v := by
 refine ⟨?_, h.2.cell⟩
 simp [World.cell?, show W.heap[T]? = _ from h.1]

theorem grown_set (W : World) (q B i : Nat) (v : Value) : W.grownBy ((W.drewN q).setCell ⟨B, i, none⟩ v) (some B) := ⟨rfl, rfl, rfl, by simp, fun k _ hk => Below.heap_setCell _ _ _ k (fun e => hk (by rw [e]))⟩
theorem seqB_cases {l0 : List S51} {vs : List S48} {k : Nat} {b : List Int} {rest : List (List Int)} (h : seqB l0 vs k b = some rest) :
  ∃ k' r, k = k' + 1 ∧ carry l0 vs vs.length b = some r ∧ ((r = none ∧ rest = [b]) ∨ ∃ b' rest', r = some b' ∧ seqB l0 vs k' b' = some rest' ∧ rest = b :: rest') := by
 cases k with
 | zero => simp [seqB] at h
 | succ k =>
  unfold seqB at h
  obtain ⟨r, hr, h⟩ := Option.bind_eq_some_iff.mp h
  refine ⟨k, r, rfl, hr, ?_⟩
  cases r with
  | none => exact .inl ⟨rfl, (Option.some.inj h).symm⟩
  | some b' =>
   obtain ⟨rest', h1, h2⟩ := Option.map_eq_some_iff.1 h
   exact .inr ⟨b', rest', rfl, h1, h2.symm⟩
theorem carry_len {l0 : List S51} {vs : List S48} : ∀ {j : Nat} {b b' : List Int}, carry l0 vs j b = some (some b') → b'.length = b.length
 | 0, b, b', h => by simp [carry] at h
 | j + 1, b, b', h => by
  unfold carry at h
  split at h
  ·split at h
   ·rw [carry_len h, List.length_set]
   ·simp only [Option.some.injEq] at h
    rw [← h, List.length_set]
  ·cases h

set_option maxRecDepth 100000 in
set_option maxHeartbeats 4000000 in
theorem all1_seq (n : Nat) (hn : 2 ≤ n) (n₀ T Sb B : Nat) (a1_0 : ByteArray) (l0 : List S51) (A0 : Option Addr) (c0 : Nat) (l1_1 : List S48) (A1_1 : Option Addr) (c1_1 : Nat) (u x y : Value) (ws w : World)
  (hr0 : Kd.C k51 ws A0 l0.length l0) (hr1 : Kd.C k48 ws A1_1 l1_1.length l1_1) (hb0 : Below ws.heap.size ws w) (hn0 : n₀ = ws.heap.size) (hl : l1_1.length ≤ 1000)
  (hT : T < B) (hS : Sb < B) (hB : n₀ ≤ B) (K0 : Nat) (zs : List (List Int)) (hz : seqB l0 l1_1 K0 (List.replicate l1_1.length 0) = some zs)
  (hcap : Cap T Sb [.string a1_0, .slice A1_1 l1_1.length c1_1, u, x, y] (.slice A0 l0.length c0) w) :
  SeqRow Fence.wide n Try.prog 56 #[.pointer (some ⟨T, 0, none⟩), .pointer (some ⟨Sb, 0, none⟩)] (fun _ : List Int => #[.slice (some ⟨B, 0, none⟩) l1_1.length l1_1.length]) B
   (KpC n₀ T Sb [.string a1_0, .slice A1_1 l1_1.length c1_1, u, x, y] (.slice A0 l0.length c0)) (fun b W => b.length = l1_1.length ∧ IntRow 3 B b W) (fun xs => xs = zs) zs.length w := by
 intro l J W hW hWB hJ hY hJ0
 subst hn0
 have hcapW : Cap T Sb [.string a1_0, .slice A1_1 l1_1.length c1_1, u, x, y] (.slice A0 l0.length c0) W := ⟨blk_later hcap.1 hW, boxed_later hcap.2 hW⟩
 have hbW : Below ws.heap.size ws W := hb0.trans (hW.mono hb0.size)
 have hY := Aside0.mk hY
 have HZ := Aside0.mk hz
 have HR0 := Aside0.mk hr0
 have HR1 := Aside0.mk hr1
 obtain ⟨hc1, hc2⟩ := cap_cells hcapW
 clear hz hr0 hr1 hcap hW hb0
 refine callsIn_of_wp Try.func56 rfl trivial ?_ rfl
 simp only [Try.ntmps56, List.size_toArray, List.length_cons, List.length_nil, Nat.reduceAdd, Nat.reduceSub, Array.replicate_succ, Array.replicate_zero, List.push_toArray, List.append_toArray, List.nil_append, List.cons_append]
 gi_wp2_with (gi_at_make; refine make_rowIn rfl (.tmp 8) 29 3 rfl Try.underlying29 info3 l1_1.length rfl hl ?_; intro W1 hIR hgW)
 rw [hWB] at hIR
 have hK0 : KpC ws.heap.size T Sb [.string a1_0, .slice A1_1 l1_1.length c1_1, u, x, y] (.slice A0 l0.length c0) W W1 := ⟨(Below.refl _ W).grown hgW (by omega) (fun k e => by cases e), fun c => cap_grown c hgW (by simp) (by simp)⟩
 have hJ1 := hJ [] W W1 none hJ0 hgW (by simp)
 have h1 : 1 ≤ n := by omega
 clear hJ0 hc1 hc2 hgW
 gi_loopg [5] K0 (fun k v5 wr => ∃ pre b, J pre wr ∧ Aside0 (b.length = l1_1.length) ∧ IntRow 3 B b wr ∧ KpC ws.heap.size T Sb [.string a1_0, .slice A1_1 l1_1.length c1_1, u, x, y] (.slice A0 l0.length c0) W wr ∧ Aside0 (∃ rest, seqB l0 l1_1 k b = some rest ∧ pre ++ rest = zs))
 case atStart => exact ⟨[], _, hJ1, ⟨by simp⟩, hIR, hK0, ⟨_, HZ.out, rfl⟩⟩
 case round =>
  clear hJ1 hIR hK0
  obtain ⟨pre, b, hJ1, HL, hIR, hK1, HS⟩ := hrel
  obtain ⟨rest, hs, hz⟩ := HS.out
  obtain ⟨k', r, hk, hcar, hr⟩ := seqB_cases hs
  have hpl : pre.length < zs.length := by
   rw [← hz, List.length_append]
   rcases hr with ⟨_, rfl⟩ | ⟨_, _, _, _, rfl⟩ <;> simp
  have HC := Aside0.mk hcar
  have HR := Aside0.mk (And.intro hr hz)
  have HK := Aside0.mk hk
  clear hs hz hcar hr HS hk
  obtain ⟨fn, tmps, assign, body, hy, hR⟩ := hY.out pre b wr hJ1 ⟨HL.out, hIR⟩ hK1 hpl
  gi_wp2
  refine hR.mono ?_
  clear hR hy
  rintro e W3 ⟨rfl, hJ3, ⟨hl3, hI3⟩, hk3⟩
  have hK3 := kpC_t hK1 hk3
  have HL3 := Aside0.mk hl3
  have HW := Aside0.mk (show wrap64 ((l1_1.length : Int) - 1) = (l1_1.length : Int) - 1 by unfold wrap64; omega)
  clear hl3 hJ1 hIR hK1 hk3
  gi_wp2
  gi_loopw [5] (fun v5 wr => ∃ (j : Nat) (i : Int) (b' : List Int), v5 = .int .i64 i ∧ Aside0 (i = (j : Int) - 1) ∧ j ≤ l1_1.length ∧ Aside0 (b'.length = l1_1.length) ∧ IntRow 3 B b' wr ∧ Aside0 (carry l0 l1_1 j b' = some r) ∧ J (pre ++ [b]) wr ∧ KpC ws.heap.size T Sb [.string a1_0, .slice A1_1 l1_1.length c1_1, u, x, y] (.slice A0 l0.length c0) W wr) (fun v5 _ => (intOf v5 + 1).toNat)
  case atStart => exact ⟨l1_1.length, _, b, rfl, ⟨by first | rfl | exact HW.out⟩, Nat.le_refl _, HL3, hI3, HC, hJ3, hK3⟩
  case round =>
   clear hJ3 hI3 hK3 HC HL3 HW
   obtain ⟨j, i, b', rfl, HI, hj, HL', hI', HC', hJ', hK'⟩ := hrel
   cases j with
   | zero =>
    obtain rfl : i = -1 := by have := HI.out; omega
    have hrn : r = none := by have h_ := HC'.out; rw [carry] at h_; exact (Option.some.inj h_).symm
    subst hrn
    have hxs : pre ++ [b] = zs := by
     obtain ⟨hr, hz⟩ := HR.out
     rcases hr with ⟨_, rfl⟩ | ⟨_, _, h_, _⟩
     ·exact hz
     ·cases h_
    have HXS := Aside0.mk hxs
    clear hxs
    gi_wp2
    gi_quiet (fail)
    gi_wp2
    refine bodyPost_ret (results_none rfl _ _ _) rfl ?_
    exact ⟨⟨_, rfl⟩, _, HXS.out, hJ _ wr _ none hJ' ⟨rfl, rfl, rfl, Nat.le_refl _, fun _ _ _ => rfl⟩ (by simp)⟩
   | succ j =>
    obtain rfl : i = (j : Int) := by have := HI.out; omega
    clear HI
    have hcc := HC'.out
    rw [carry] at hcc
    by_cases hin : inSets l0 l1_1 j = true
    ·rw [if_pos hin] at hcc
     obtain ⟨hi0, hi1⟩ : (0 ≤ (rd_T48 l1_1 (j : Int)).f1) ∧ (rd_T48 l1_1 (j : Int)).f1 < (l0.length : Int) := by
      unfold inSets at hin
      rw [Bool.and_eq_true] at hin
      exact ⟨of_decide_eq_true hin.1, of_decide_eq_true hin.2⟩
     have hbw : Below ws.heap.size ws wr := hbW.trans hK'.1
     obtain ⟨ad1, e1, hx0, hx1⟩ := at_T48 HR1.out (j : Int) (by omega) (by omega)
     obtain ⟨vj, evj⟩ : ∃ v, v = rd_T48 l1_1 (j : Int) := ⟨_, rfl⟩
     obtain ⟨ad0, As, cs, e0, hy0, hy1, hys, hyr⟩ := at_T51 HR0.out vj.f1 (by rw [evj]; exact hi0) (by rw [evj]; exact hi1)
     rw [← evj] at hx0 hx1 hi0 hi1
     replace hx1 := (hbw.cell (World.block_lt_of_cell? ws _ hx1)).trans hx1
     replace hy1 := (hbw.cell (World.block_lt_of_cell? ws _ hy1)).trans hy1
     rw [Int.toNat_natCast] at hx1
     cases e1
     cases e0
     obtain ⟨hcT, hcS⟩ := cap_cells (hK'.2 hcapW)
     obtain ⟨hcb, hcf⟩ := intRow_cell hI' (show j < b'.length by rw [HL'.out]; omega)
     obtain ⟨bj, ebj⟩ : ∃ v, v = rd b' (j : Int) := ⟨_, rfl⟩
     obtain ⟨sz, esz⟩ : ∃ v, v = ((rd_T51 l0 vj.f1).f1.length : Int) := ⟨_, rfl⟩
     rw [← ebj] at hcb hcc
     have hss : setOf l0 l1_1 j = sz := by rw [esz, evj, setOf]
     rw [hss] at hcc
     have r1 : (0 ≤ vj.f1) = True := eq_true hi0
     have r2 : (vj.f1 < (l0.length : Int)) = True := eq_true hi1
     have r3 : ((j : Int) < (l1_1.length : Int)) = True := eq_true (by omega)
     have HSZ := Aside0.mk esz
     have HIN := Aside0.mk hin
     have HEV := Aside0.mk evj
     have HEB := Aside0.mk ebj
     have HCC := Aside0.mk hcc
     clear hx0 hy0 hys hyr hi0 hi1 hcc hss hin evj ebj esz hbw
     have hpj : decide (0 ≤ (j : Int)) = true := decide_eq_true (by omega)
     by_cases hq : bj = wrap64 (sz - 1)
     ·have heb : (bj == wrap64 (sz - 1)) = true := beq_iff_eq.2 hq
      have hcc := HCC.out
      rw [if_pos hq] at hcc
      have HC2 := Aside0.mk hcc
      clear hcc HCC hq
      rw [HSZ.out] at heb
      gi_wp2
      gi_quiet (fail)
      gi_wp2
      have hg := grown_set wr nq B j (.int .i64 0)
      exact ⟨⟨j, (j : Int) - 1, b'.set j 0, rfl, ⟨rfl⟩, by omega, ⟨by rw [List.length_set]; exact HL'.out⟩, intRow_set (W := wr.drewN nq) hI' j 0, HC2, hJ _ _ _ _ hJ' hg (fun r e => by cases e; rfl), kpC_t hK' ⟨below_grown' hg hB (by have := hK'.1.size; have := hbW.size; omega), fun c => cap_grown c hg (fun e => by cases e; omega) (fun e => by cases e; omega)⟩⟩, by simp [intOf] <;> omega⟩
     ·have heb : (bj == wrap64 (sz - 1)) = false := beq_eq_false_iff_ne.2 hq
      have hcc := HCC.out
      rw [if_neg hq] at hcc
      have HC2 := Aside0.mk hcc
      clear hcc HCC hq
      rw [HSZ.out] at heb
      gi_wp2
      gi_quiet (fail)
      gi_wp2
      have hg := grown_set wr nq B j (.int .i64 (wrap64 (bj + 1)))
      have hre : r = some (b'.set j (wrap64 (bj + 1))) := (Option.some.inj HC2.out).symm
      gi_roundg k'
      case measure => have := HK.out; omega
      case rel =>
       refine ⟨pre ++ [b], b'.set j (wrap64 (bj + 1)), hJ _ _ _ _ hJ' hg (fun r e => by cases e; rfl), ⟨by rw [List.length_set]; exact HL'.out⟩, intRow_set (W := wr.drewN nq) hI' j _, kpC_t hK' ⟨below_grown' hg hB (by have := hK'.1.size; have := hbW.size; omega), fun c => cap_grown c hg (fun e => by cases e; omega) (fun e => by cases e; omega)⟩, ⟨?_⟩⟩
       obtain ⟨hr, hz⟩ := HR.out
       rcases hr with ⟨h_, _⟩ | ⟨b2, rest', h_, h2, rfl⟩
       ·rw [hre] at h_; cases h_
       ·rw [hre] at h_
        cases h_
        exact ⟨rest', h2, by rw [← hz]; simp⟩
    ·rw [if_neg hin] at hcc
     cases hcc

set_option maxHeartbeats 1000000 in
/-- all(sets, t): both are boxed; the function value captures the boxes. -/
theorem ball_in (F : Fence) (n : Nat) (hf : F.fn 44) (hro : F.round = none) (v a y z u x : Value) (hv : v.oneCell' = true) (w : World) :
  CallsIn F n Try.prog 44 #[v, .agg #[a, y, z, u, x]] w fun e w' => e = .returned (.func (.func 56) #[] #[.pointer (some ⟨w.heap.size + 1, 0, none⟩), .pointer (some ⟨w.heap.size, 0, none⟩)]) ∧ w' = (w.alloc (.cells #[v] 22)).alloc (.cells #[a, y, z, u, x] 27) := by
 refine callsIn_of_wp Try.func44 rfl hf ?_ hro
 simp only [Try.ntmps44, List.size_toArray, List.length_cons, List.length_nil, Nat.reduceAdd, Nat.reduceSub, Array.replicate_succ, Array.replicate_zero, List.push_toArray, List.append_toArray, List.nil_append, List.cons_append]
 gi_wp2
 go_ret
 exact ⟨rfl, rfl⟩

theorem intRow_C {B : Nat} {b : List Int} {W : World} (h : IntRow 3 B b W) (hm : b.length ≤ 1000) : Kd.C (Kd.int .i64) W (some ⟨B, 0, none⟩) b.length b :=
 (Kd.R_reads' (c := b.length) (Kd.R_of_own (enc := Value.int .i64) (h1 := fun _ => rfl) (e := 3) (ok := fun _ => True) (base := 0) ⟨by simp [encs], .inr ⟨B, b.length, (b.map (Value.int .i64)).toArray, rfl, Nat.zero_le _, h, Nat.le_refl _, by simp only [maxLen]; omega, by simp, by simp [encs]; exact List.take_of_length_le (by simp)⟩⟩ (fun _ _ => trivial))).2.2
section
variable {F : Fence} {n : Nat} {P : Program} {ops : Array Oper} {o : Oper} {a : Act} {Q : Exit → Act → World → Prop} {α : Type}
theorem R_append_if (d : Kd α) {W : World} {K : Act → World → Prop} {E : Prop} (base : Nat) (hgd : o.guard = none) (s x : Operand) (t e : TypeId) (z : Value) (bytes : Nat)
  (ho : o.op = .call { callee := .builtin .append, args := #[s, x], argTypes := #[t, t] })
  (ht : P.underlying t = some (.slice e)) (hinfo : (P.info? e).map (fun i => (i.zero, i.size, i.bytes)) = some (some z, d.sz, bytes)) (hz : z.cells.size = d.sz) (hs0 : 0 < d.sz) (hb0 : 0 < bytes)
  (v : Value) (xs : List α) (p : α) (cs : List Value) (ok okp : Nat → Prop) (hs : a.eval s = v) (hx : a.eval x = .slice (some ⟨W.heap.size, 0, none⟩) 1 1) (hp : d.M W base okp p cs) (hokp : ∀ k, okp k → ok k ∧ some k ≠ v.ownBlock) (hfresh : ∀ k, W.heap.size ≤ k → ok k)
  (HO : d.R e W base ok v xs) (hbase : base ≤ W.heap.size) (hl : (xs.length + 1) * bytes ≤ 140737488355328)
  (h : ∀ v1 w1, d.R e w1 base ok v1 (xs ++ [p]) → (W.alloc (.cells cs.toArray e)).grownBy w1 v.ownBlock → (∃ g cap, v1 = .slice (some ⟨g, 0, none⟩) (xs.length + 1) cap) → K (a.put o.dst v1) w1) :
  if Region.wanted o (yielded ops a.tmps) = true then Oper.wpIn F n P o a (W.alloc (.cells cs.toArray e)) K Q else E := by
 rw [if_pos (by simp [Region.wanted, hgd])]
 obtain ⟨h0, inner, hown, hr⟩ := HO
 obtain ⟨i0, hi, hzz⟩ := Option.map_eq_some_iff.1 hinfo
 simp only [Prod.mk.injEq] at hzz
 obtain ⟨hz0, hz1, hz2⟩ := hzz
 have hcs := d.K_len (d.K_of_M hp)
 have hlen : xs.length + 1 ≤ 140737488355328 := Nat.le_trans (Nat.le_mul_of_pos_right _ hb0) hl
 obtain ⟨v1, w1, hrun, hown1, r2, hat, hg⟩ := run_append_own_at (P := P) (W.alloc (.cells cs.toArray e)) base t o.type e i0 z d.sz bytes ht hi hz0 hz1 hz2 hz hs0 v xs.length inner (hown.alloc _) ⟨W.heap.size, 0, none⟩ 1 1 cs (by rw [hcs]; simp)
  (by simpa using World.news_of_block (cs := cs.toArray) (t := e) (fr := (0, 0)) (heap_alloc_new W (.cells cs.toArray e))) (d.K_one (d.K_of_M hp)) (by simp only [maxLen]; omega) hl (by simp; omega)
 have hK := h v1 w1 (Kd.R_appended h0 hr hp hokp hfresh hown1 (World.grownBy.trans (World.grownBy_alloc W _ _) r2) (by
  rcases hg with hat | hat
  ·exact .inl hat
  ·exact .inr ⟨_, hat, by simp⟩)) r2 (ownsRow_succ hown1)
 unfold Oper.wpIn
 refine ⟨?_, ?_⟩
 ·simp [Oper.about, ho, resolve, Target.leads, Sem.run_pure]
 ·rw [Oper.semAt_plain F _ _ (by rw [ho]; intro c hc'; cases hc')]
  simp [execOp, ho, resolve, invoke, builtin, hs, hx, hrun, Result.andThen]
  exact hK
theorem S_append_if (d : Kd α) {W : World} {K : Act → World → Prop} {E : Prop} (base : Nat) (hgd : o.guard = none) (s x : Operand) (t e : TypeId) (z : Value) (bytes : Nat)
  (ho : o.op = .call { callee := .builtin .append, args := #[s, x], argTypes := #[t, t] })
  (ht : P.underlying t = some (.slice e)) (hinfo : (P.info? e).map (fun i => (i.zero, i.size, i.bytes)) = some (some z, d.sz, bytes)) (hz : z.cells.size = d.sz) (hs0 : 0 < d.sz) (hb0 : 0 < bytes)
  (v : Value) (xs : List α) (p : α) (cs : List Value) (ok okp : Nat → Prop) (hs : a.eval s = v) (hx : a.eval x = .slice (some ⟨W.heap.size, 0, none⟩) 1 1) (hp : d.M W base okp p cs) (hokp : ∀ k, okp k → ok k ∧ some k ≠ v.ownBlock) (hfresh : ∀ k, W.heap.size ≤ k → ok k)
  (HO : Kd.S d e W base (fun k => ok k ∧ ¬ okp k) v xs) (hbase : base ≤ W.heap.size) (hl : (xs.length + 1) * bytes ≤ 140737488355328)
  (h : ∀ v1 w1, Kd.S d e w1 base ok v1 (xs ++ [p]) → (W.alloc (.cells cs.toArray e)).grownBy w1 v.ownBlock → (∃ g cap, v1 = .slice (some ⟨g, 0, none⟩) (xs.length + 1) cap) → K (a.put o.dst v1) w1) :
  if Region.wanted o (yielded ops a.tmps) = true then Oper.wpIn F n P o a (W.alloc (.cells cs.toArray e)) K Q else E := by
 obtain ⟨f, hf, hR⟩ := Kd.S_tag HO xs.length okp (fun _ hk h2 => h2.2 hk)
 refine R_append_if (Kd.tag f d) base hgd s x t e z bytes ho ht hinfo hz hs0 hb0 v xs.zipIdx (p, xs.length) cs ok okp hs hx (d.M_mono (fun k hk => ⟨hk, hf k hk⟩) hp) hokp hfresh (Kd.R_mono hR (fun _ hk => hk.1)) hbase (by rw [List.length_zipIdx]; exact hl) ?_
 intro v1 w1 hr
 rw [← Kd.zip_snoc] at hr
 rw [List.length_zipIdx]
 exact h v1 w1 ⟨f, hr⟩
end

/-- What the loop has gathered. -/
def outB (a1_0 : ByteArray) (l1_1 : List S48) (l1_2 : List S62) (l1_3 : List S111) (l1_4 : List S111) (pre : List (List Int)) : List (List Int) := pre.filter fun b => binding_holds.f a1_0 l1_1 l1_2 l1_3 l1_4 b == some true
theorem holds_some {m : Nat} {b : List Int} (hb : b.length = m) : ∀ {gs : List S62}, gs.all (okG m) = true → ∃ r, holdsGo b gs = some r
 | [], _ => ⟨true, rfl⟩
 | g :: gs, h => by
  rw [List.all_cons, Bool.and_eq_true] at h
  have hg := of_decide_eq_true h.1
  rw [← hb] at hg
  rw [holdsGo, if_pos hg]
  split
  ·exact ⟨_, rfl⟩
  ·exact holds_some hb h.2
/-- Between two rounds: n₁: the variable's box; the rows lie from b on; the iterator's own row is b + 2. -/
def AllI (w : World) (n₁ b : Nat) (cs : List Value) (v0 : Value) (f : List (List Int) → List (List Int)) (pre : List (List Int)) (W : World) : Prop :=
 ((∃ v, Boxed W n₁ 45 v ∧ Kd.S (Kd.slice 3 (Kd.int .i64)) 29 W b (fun k => k ≠ b + 2) v (f pre)) ∧ Blk W w.heap.size 27 cs ∧ (Blk W (n₁ + 1 + 1) 27 cs ∧ Boxed W (n₁ + 1) 22 v0)) ∧ Below w.heap.size w W
theorem allI_own (w : World) (n₁ b : Nat) (cs : List Value) (v0 : Value) (f : List (List Int) → List (List Int)) (B : Nat) (hB : w.heap.size ≤ B) : OwnFrom B (AllI w n₁ b cs v0 f) :=
 OwnFrom.and (Own.from (Own.and' (Own.ex fun v => Own.and' (boxed_own _ _ fun _ => v) (S_own _ _ _ _ (fun _ => v) f)) (Own.and' (blk_own _ _ fun _ => _) (Own.and' (blk_own _ _ fun _ => _) (boxed_own _ _ fun _ => _)))) _) (ownFrom_below (Nat.le_refl _) hB)
theorem allI_row (w : World) (n₁ b : Nat) (cs : List Value) (v0 : Value) (f : List (List Int) → List (List Int)) (hn : w.heap.size < n₁) (hb : n₁ + 3 ≤ b) (pre : List (List Int)) (X Y : World) (h : AllI w n₁ b cs v0 f pre X) (hg : X.grownBy Y (some (b + 2))) : AllI w n₁ b cs v0 f pre Y := by
 obtain ⟨⟨⟨v, hv, hS⟩, hT, hT2, hS2⟩, hB⟩ := h
 refine ⟨⟨⟨v, hv.kept hg (by simp <;> omega), Kd.S_step hS (fun k hk hlt => hg.block k hlt (fun e => hk (by cases e; rfl)))⟩, (hg.block _ (Array.getElem?_eq_some_iff.1 hT).1 (by simp <;> omega)).trans hT, (hg.block _ (Array.getElem?_eq_some_iff.1 hT2).1 (by simp <;> omega)).trans hT2, hS2.kept hg (by simp <;> omega)⟩, ?_⟩
 exact hB.trans (below_grown' hg (by omega) hB.size)
theorem blk5 {W : World} {g : Nat} {t : TypeId} {a b c d e : Value} (h : Blk W g t [a, b, c, d, e]) : W.cell? ⟨g, 0, none⟩ = some a ∧ W.cell? ⟨g, 1, none⟩ = some b ∧ W.cell? ⟨g, 2, none⟩ = some c ∧ W.cell? ⟨g, 3, none⟩ = some d ∧ W.cell? ⟨g, 4, none⟩ = some e := by
 refine ⟨?_, ?_, ?_, ?_, ?_⟩ <;> simp [World.cell?, show W.heap[g]? = _ from h]
set_option maxRecDepth 100000 in
set_option maxHeartbeats 4000000 in
theorem binding_All.in_ (n : Nat) (hn : 4 ≤ n) (A0 : Option Addr) (c0 : Nat) (l0 : List S51) (a1_0 : ByteArray) (A1_1 : Option Addr) (c1_1 : Nat) (l1_1 : List S48) (A1_2 : Option Addr) (c1_2 : Nat) (l1_2 : List S62) (A1_3 : Option Addr) (c1_3 : Nat) (l1_3 : List S111) (A1_4 : Option Addr) (c1_4 : Nat) (l1_4 : List S111) (w : World)
  (hr0 : Kd.C k51 w A0 l0.length l0) (hc0 : l0.length ≤ c0) (hr1_1 : Kd.C k48 w A1_1 l1_1.length l1_1) (hc1_1 : l1_1.length ≤ c1_1) (hr1_2 : Kd.C k62 w A1_2 l1_2.length l1_2) (hc1_2 : l1_2.length ≤ c1_2) (hr1_3 : Kd.C k111 w A1_3 l1_3.length l1_3) (hc1_3 : l1_3.length ≤ c1_3) (hr1_4 : Kd.C k111 w A1_4 l1_4.length l1_4) (hc1_4 : l1_4.length ≤ c1_4)
  (hck : binding_Check.f l0 a1_0 l1_1 l1_2 l1_3 l1_4 = some 0) (hl : l1_1.length ≤ 1000) (zs : List (List Int)) (hz : seqB l0 l1_1 100000 (List.replicate l1_1.length 0) = some zs) (hzl : zs.length ≤ 100000) (hgl : l1_2.length ≤ 1000) (hza : l1_2.all (okG l1_1.length) = true) :
  CallsIn Fence.wide n Try.prog 24 #[.slice A0 l0.length c0, .agg #[.string a1_0, .slice A1_1 l1_1.length c1_1, .slice A1_2 l1_2.length c1_2, .slice A1_3 l1_3.length c1_3, .slice A1_4 l1_4.length c1_4]] w fun e W' => ∃ v0_ : Value, e = .returned (v0_) ∧ Kd.S (Kd.slice 3 (Kd.int .i64)) 29 W' w.heap.size (fun _ => True) v0_ (outB a1_0 l1_1 l1_2 l1_3 l1_4 zs) ∧ Below w.heap.size w W' := by
 have h1 : 1 ≤ n := by omega
 have HR0 := Aside0.mk hr0
 have HC0 := Aside0.mk hc0
 have HR1 := Aside0.mk hr1_1
 have HC1 := Aside0.mk hc1_1
 have HR2 := Aside0.mk hr1_2
 have HC2 := Aside0.mk hc1_2
 have HR3 := Aside0.mk hr1_3
 have HC3 := Aside0.mk hc1_3
 have HR4 := Aside0.mk hr1_4
 have HC4 := Aside0.mk hc1_4
 have HZ := Aside0.mk hz
 have HZA := Aside0.mk hza
 have HCK := Aside0.mk hck
 clear hr0 hc0 hr1_1 hc1_1 hr1_2 hc1_2 hr1_3 hc1_3 hr1_4 hc1_4 hz hza hck
 refine callsIn_of_wp_marks Try.func24 rfl trivial ?_ rfl
 simp only [Try.ntmps24, List.size_toArray, List.length_cons, List.length_nil, Nat.reduceAdd, Nat.reduceSub, Array.replicate_succ, Array.replicate_zero, List.push_toArray, List.append_toArray, List.nil_append, List.cons_append]
 gi_wp2
 refine ⟨trivial, (callsIn_wide.2 (binding_Check.calls A0 c0 l0 a1_0 A1_1 c1_1 l1_1 A1_2 c1_2 l1_2 A1_3 c1_3 l1_3 A1_4 c1_4 l1_4 0 _ (Kd.C_alloc HR0.out _) HC0.out (Kd.C_alloc HR1.out _) HC1.out (Kd.C_alloc HR2.out _) HC2.out (Kd.C_alloc HR3.out _) HC3.out (Kd.C_alloc HR4.out _) HC4.out HCK.out)).mono ?_⟩
 rintro e W1 ⟨rfl, hb1⟩
 rw [World.size_alloc] at hb1
 have hT1 : Blk W1 w.heap.size 27 [.string a1_0, .slice A1_1 l1_1.length c1_1, .slice A1_2 l1_2.length c1_2, .slice A1_3 l1_3.length c1_3, .slice A1_4 l1_4.length c1_4] := (hb1.block _ (by omega)).trans (World.alloc_heap_new w _)
 have hsz1 : w.heap.size < W1.heap.size := by have h_ := hb1.size; simp at h_; omega
 have hB1 : Below w.heap.size w W1 := ((Below.refl _ w).alloc (Nat.le_refl _) _).trans (hb1.mono (by omega))
 obtain ⟨k0, k1, k2, k3, k4⟩ := blk5 hT1
 clear hb1
 have HB1 := Aside0.mk hB1
 have HT1 := Aside0.mk hT1
 clear hB1 hT1
 gi_wp2_with (refine ⟨trivial, ?_⟩; gi_at_call 44; refine (ball_in Fence.wide (n - 1) trivial rfl _ _ _ _ _ _ rfl _).mono ?_; rintro e w' ⟨rfl, rfl⟩)
 obtain ⟨W0, hW0⟩ : ∃ W0, ((W1.alloc (.cells #[.slice none 0 0] 45)).alloc (.cells #[.slice A0 l0.length c0] 22)).alloc (.cells #[.string a1_0, .slice A1_1 l1_1.length c1_1, .slice A1_2 l1_2.length c1_2, .slice A1_3 l1_3.length c1_3, .slice A1_4 l1_4.length c1_4] 27) = W0 := ⟨_, rfl⟩
 have hsz0 : W0.heap.size = W1.heap.size + 3 := by rw [← hW0]; simp
 have bO : Boxed W0 W1.heap.size 45 (.slice none 0 0) := hW0 ▸ ((Boxed.new W1 45 (.slice none 0 0)).alloc _).alloc _
 have bS : Boxed W0 (W1.heap.size + 1) 22 (.slice A0 l0.length c0) := by
  have h_ := (Boxed.new (W1.alloc (.cells #[.slice none 0 0] 45)) 22 (.slice A0 l0.length c0)).alloc (.cells #[.string a1_0, .slice A1_1 l1_1.length c1_1, .slice A1_2 l1_2.length c1_2, .slice A1_3 l1_3.length c1_3, .slice A1_4 l1_4.length c1_4] 27)
  rw [World.size_alloc] at h_
  exact hW0 ▸ h_
 have bT : Blk W0 (W1.heap.size + 1 + 1) 27 [.string a1_0, .slice A1_1 l1_1.length c1_1, .slice A1_2 l1_2.length c1_2, .slice A1_3 l1_3.length c1_3, .slice A1_4 l1_4.length c1_4] := by
  have h_ := World.alloc_heap_new ((W1.alloc (.cells #[.slice none 0 0] 45)).alloc (.cells #[.slice A0 l0.length c0] 22)) (.cells #[.string a1_0, .slice A1_1 l1_1.length c1_1, .slice A1_2 l1_2.length c1_2, .slice A1_3 l1_3.length c1_3, .slice A1_4 l1_4.length c1_4] 27)
  rw [World.size_alloc, World.size_alloc] at h_
  exact hW0 ▸ h_
 have hB0 : Below w.heap.size w W0 := hW0 ▸ (((HB1.out.alloc (by omega) _).alloc (by simp; omega) _).alloc (by simp; omega) _)
 have bT1 : Blk W0 w.heap.size 27 [.string a1_0, .slice A1_1 l1_1.length c1_1, .slice A1_2 l1_2.length c1_2, .slice A1_3 l1_3.length c1_3, .slice A1_4 l1_4.length c1_4] := hW0 ▸ blk_alloc (blk_alloc (blk_alloc HT1.out _) _) _
 rw [hW0]
 clear hW0
 refine rangeFunc_row (F := Fence.wide) (show Fence.wide.round = none from rfl) h1 (gf := 56) (lb := #[.pointer (some ⟨W1.heap.size + 1 + 1, 0, none⟩), .pointer (some ⟨W1.heap.size + 1, 0, none⟩)]) rfl trivial (enters_of Try.func56 (by kernel_rfl) rfl)
  (all1_seq (n - 1) (by omega) w.heap.size (W1.heap.size + 1 + 1) (W1.heap.size + 1) (W0.heap.size + 2) a1_0 l0 A0 c0 l1_1 A1_1 c1_1 _ _ _ w W0 HR0.out HR1.out hB0 rfl hl (by omega) (by omega) (by omega) 100000 zs HZ.out ⟨bT, bS⟩)
  kpC_t (kpC_b (by omega)) (fun x W o o' _ _ hh => ⟨hh.1, (World.putObj_heap_other (by omega)).trans hh.2⟩) (by intro _; rfl)
  (AllI w W1.heap.size W0.heap.size [.string a1_0, .slice A1_1 l1_1.length c1_1, .slice A1_2 l1_2.length c1_2, .slice A1_3 l1_3.length c1_3, .slice A1_4 l1_4.length c1_4] (.slice A0 l0.length c0) (outB a1_0 l1_1 l1_2 l1_3 l1_4)) (allI_own w _ _ _ _ _ _ (by omega)) (allI_row w _ _ _ _ _ (by omega) (by omega))
  ⟨⟨⟨_, bO, Kd.S_nil _ _ _ _ _⟩, bT1, bT, bS⟩, hB0⟩
  (fun x => { tmps := #[.slice A0 l0.length c0, .agg #[.string a1_0, .slice A1_1 l1_1.length c1_1, .slice A1_2 l1_2.length c1_2, .slice A1_3 l1_3.length c1_3, .slice A1_4 l1_4.length c1_4], undef, .pointer (some ⟨w.heap.size, 0, none⟩), .slice none 0 0, .pointer (some ⟨W1.heap.size, 0, none⟩), .slice (some ⟨W0.heap.size + 2, 0, none⟩) l1_1.length l1_1.length, .slice A0 l0.length c0, .agg #[.string a1_0, .slice A1_1 l1_1.length c1_1, .slice A1_2 l1_2.length c1_2, .slice A1_3 l1_3.length c1_3, .slice A1_4 l1_4.length c1_4], .int .i64 0, .bool false, .slice A0 l0.length c0, .agg #[.string a1_0, .slice A1_1 l1_1.length c1_1, .slice A1_2 l1_2.length c1_2, .slice A1_3 l1_3.length c1_3, .slice A1_4 l1_4.length c1_4], .func (.func 56) #[] #[.pointer (some ⟨W1.heap.size + 1 + 1, 0, none⟩), .pointer (some ⟨W1.heap.size + 1, 0, none⟩)], .slice (some ⟨W0.heap.size + 2, 0, none⟩) l1_1.length l1_1.length, undef, undef, undef, undef, undef, undef, undef, undef, undef], defers := [] }) ?assign ?body ?done
 case assign =>
  clear hsz0
  intro l x W K hK
  gi_wp2
  exact hK
 case body =>
  have HSZ0 := Aside0.mk hsz0
  clear hsz0
  clear bO bS bT bT1 hB0 k0 k1 k2 k3 k4
  rintro l pre x W ⟨⟨⟨v, hv, hS⟩, hT, hT2, hS2⟩, hB⟩ ⟨hxl, hx⟩ hlt hsw
  obtain ⟨k0, k1, k2, k3, k4⟩ := blk5 hT
  obtain ⟨A9, c9, rfl⟩ := Kd.S_slice hS
  have hol : (outB a1_0 l1_1 l1_2 l1_3 l1_4 pre).length ≤ pre.length := List.length_filter_le _ _
  obtain ⟨r, hr⟩ := holds_some hxl HZA.out
  have hrf : binding_holds.f a1_0 l1_1 l1_2 l1_3 l1_4 x = some r := by rw [binding_holds.f, if_pos hgl, hr]
  have hC := HB1.out.size
  have hCx := intRow_C hx (by omega)
  have hcall := binding_holds.calls a1_0 A1_1 c1_1 l1_1 A1_2 c1_2 l1_2 A1_3 c1_3 l1_3 A1_4 c1_4 l1_4 (some ⟨W0.heap.size + 2, 0, none⟩) l1_1.length x r W (Kd.C_below HR1.out hB) HC1.out (Kd.C_below HR2.out hB) HC2.out (Kd.C_below HR3.out hB) HC3.out (Kd.C_below HR4.out hB) HC4.out hCx (by omega) hrf
  rw [hxl] at hcall
  have HX := Aside0.mk hx
  have HCALL := Aside0.mk hcall
  have HRF := Aside0.mk hrf
  clear hx hcall hrf hr
  gi_wp2
  refine ⟨trivial, (fun h => by cases h), ((CallsIn.inRound l (callsIn_wide.2 HCALL.out))).mono ?_⟩
  rintro e W2 ⟨rfl, hbW⟩
  clear HCALL
  have hv2 := boxed_later hv hbW
  have hT_2 := blk_later hT hbW
  have hT2_2 := blk_later hT2 hbW
  have hS2_2 := boxed_later hS2 hbW
  have hx2 : IntRow 3 (W0.heap.size + 2) x W2 := (hbW.block _ (Array.getElem?_eq_some_iff.1 HX.out).1).trans HX.out
  have hB2 : Below w.heap.size W W2 := hbW.mono hB.size
  have hBw2 := hB.trans hB2
  have hSS := Kd.S_below hS hbW
  have hK2 := keeps_later hbW
  have hvc := hv2.cell
  have hvf := hv2.frozen
  have hszW2 := hbW.size
  cases r with
  | false =>
   have hout : outB a1_0 l1_1 l1_2 l1_3 l1_4 (pre ++ [x]) = outB a1_0 l1_1 l1_2 l1_3 l1_4 pre := by
    unfold outB
    rw [List.filter_append, List.filter_cons, HRF.out]
    simp
   have HOUT := Aside0.mk hout
   have HSS := Aside0.mk hSS
   have HX2 := Aside0.mk hx2
   clear hout hSS hx2
   gi_wp2
   exact ⟨hK2.from _, ⟨hB2, fun _ => ⟨hT2_2, hS2_2⟩⟩, ⟨hxl, HX2.out⟩, ⟨⟨_, hv2, by rw [HOUT.out]; exact HSS.out⟩, hT_2, hT2_2, hS2_2⟩, hBw2⟩
  | true =>
   gi_wp2
   have hout : outB a1_0 l1_1 l1_2 l1_3 l1_4 (pre ++ [x]) = outB a1_0 l1_1 l1_2 l1_3 l1_4 pre ++ [x] := by
    unfold outB
    rw [List.filter_append, List.filter_cons, HRF.out]
    simp
   have HOUT := Aside0.mk hout
   have hBB : W0.heap.size + 2 < W.heap.size := (Array.getElem?_eq_some_iff.1 HX.out).1
   have hSb := Kd.S_mono (Kd.S_bound hS) (ok' := fun k => k < W2.heap.size ∧ k ≠ W0.heap.size + 2) (fun k hk => ⟨by have := hk.2.2.1; omega, hk.1⟩)
   have hSb2 := Kd.S_below hSb hbW
   have HNE := Aside0.mk (fun k (hk : (.slice A9 (outB a1_0 l1_1 l1_2 l1_3 l1_4 pre).length c9 : Value).ownBlock = some k) => (Kd.S_R hSb2).1 k hk)
   have HSS := Aside0.mk (Kd.S_mono hSb2 (ok' := fun k => k ≠ W0.heap.size + 2 ∧ k < W2.heap.size) (fun k hk => ⟨hk.2, hk.1⟩))
   have HX2 := Aside0.mk hx2
   have hC2 := intRow_C hx2 (by omega)
   have hcl := slices_Clone_int_int.calls (some ⟨W0.heap.size + 2, 0, none⟩) l1_1.length x x W2.drew (Kd.C_drew hC2) (by omega) (by rw [slices_Clone_int_int.f, if_pos (by omega)])
   rw [hxl] at hcl
   have HCL := Aside0.mk hcl
   have hHSZ := HSZ0.out
   have hW01 : W1.heap.size < W0.heap.size := by omega
   clear hHSZ hcl hC2 hSb2 hSb hout hx2 hSS hS hv hT hT2 hS2 k0 k1 k2 k3 k4
   refine wpIn_region_round (F := Fence.wide) (by kernel_rfl) (by kernel_rfl) ?_
   refine wpAnyIn_ready (rs := [0, 1]) (by kernel_rfl) (by simp) (AllReadyIn.cons rfl (fun K hK => ?_) (AllReadyIn.cons rfl (fun K hK => ?_) AllReadyIn.nil))
   ·go_simp
    refine hK _ _ ?_
    clear hK K
    refine wpAnyIn_ready (rs := [1]) (by kernel_rfl) (by simp) (AllReadyIn.cons rfl (fun K hK => ?_) AllReadyIn.nil)
    ·go_simp
     refine hK _ _ ?_
     clear hK K
     refine wpAnyIn_ready (rs := [2]) (by kernel_rfl) (by simp) (AllReadyIn.cons rfl (fun K hK => ?_) AllReadyIn.nil)
     ·go_simp
      refine ⟨trivial, (fun h => by cases h), (callsIn_wide.2 HCL.out).mono ?_⟩
      rintro e W3 ⟨v3, rfl, hR3, hb3⟩
      obtain ⟨A3, c3, rfl⟩ := Kd.R_slice hR3
      simp only [hxl] at hR3
      try simp only [hxl]
      refine hK _ _ ?_
      clear hK K
      have hb3' : Below W2.heap.size W2 W3 := (below_drew1 (Below.refl _ _)).trans hb3
      clear hb3
      have HR3 := Aside0.mk (show Kd.R (Kd.int .i64) 3 W3 W2.heap.size (fun k => W2.heap.size ≤ k) (.slice A3 l1_1.length c3) x from Kd.R_mono (Kd.R_bound hR3) (fun k hk => hk.2.1))
      clear hR3
      have hv3 := boxed_later hv2 hb3'
      have hvc3 := hv3.cell
      have hvc3a := fun o => (hv3.alloc o).cell
      have hvf3 := hv3.frozen
      have HB3 := Aside0.mk hb3'
      clear hb3'
      refine wpAnyIn_ready (rs := [3]) (by kernel_rfl) (by simp) (AllReadyIn.cons rfl (fun K hK => ?_) AllReadyIn.nil)
      ·go_simp
       refine hK _ _ ?_
       clear hK K
       refine wpAnyIn_ready (rs := [4]) (by kernel_rfl) (by simp) (AllReadyIn.cons rfl (fun K hK => ?_) AllReadyIn.nil)
       ·refine S_append_if (Kd.slice 3 (Kd.int .i64)) W0.heap.size rfl (.tmp 18) (.tmp 21) 45 29 (.slice none 0 0) 24 rfl Try.underlying45 info29 rfl (by decide) (by omega) (.slice A9 (outB a1_0 l1_1 l1_2 l1_3 l1_4 pre).length c9) (outB a1_0 l1_1 l1_2 l1_3 l1_4 pre) x [.slice A3 l1_1.length c3] (fun k => k ≠ W0.heap.size + 2) (fun k => W2.heap.size ≤ k) rfl rfl ⟨_, rfl, Kd.R_lower HR3.out (by omega)⟩ (fun k hk => ⟨by omega, fun e => by have h_ := HNE.out k e.symm; omega⟩) (fun k hk => by have h_ := HB3.out.size; omega) (Kd.S_mono (Kd.S_below HSS.out HB3.out) (fun k hk => ⟨hk.1, by omega⟩)) (by have h_ := HB3.out.size; omega) (by omega) ?_
        rintro v1 w4 hS4 hg4 ⟨g4, cap4, rfl⟩
        refine hK _ _ ?_
        clear hK K
        have hSS3 := Kd.S_below HSS.out HB3.out
        have hs3 := HB3.out.size
        obtain ⟨hk4, hb4⟩ := S_keeps (base := W0.heap.size) hSS3 (by omega) hg4
        have hx3 : IntRow 3 (W0.heap.size + 2) x W3 := (HB3.out.block _ (by omega)).trans HX2.out
        have hx4 := intRow_later (intRow_later hx3 (World.grownBy_alloc W3 _ none) (by simp)) hg4 (fun e => by have h_ := HNE.out _ e; exact h_.2 rfl)
        have hv4 : Boxed w4 W1.heap.size 45 (.slice A9 (outB a1_0 l1_1 l1_2 l1_3 l1_4 pre).length c9) := (hb4.block _ (by omega)).trans hv3
        have hvc4 := hv4.cell
        have hvf4 := hv4.frozen
        have HS4 := Aside0.mk hS4
        have HK4 := Aside0.mk hk4
        have HB4 := Aside0.mk hb4
        have HX4 := Aside0.mk hx4
        clear hS4 hk4 hb4 hx4 hg4 hSS3 hx3
        refine wpAnyIn_ready (rs := [5]) (by kernel_rfl) (by simp) (AllReadyIn.cons rfl (fun K hK => ?_) AllReadyIn.nil)
        ·go_simp
         refine hK _ _ ?_
         clear hK K
         refine wpAnyIn_done (by kernel_rfl) ?_ _
         gi_wp2
         have hHS := HSZ0.out
         have hT5 := blk_other (p := ⟨W1.heap.size, 0, none⟩) ((HB4.out.block _ (by omega)).trans (blk_later hT2_2 HB3.out)) (by simp <;> omega) (.slice (some ⟨g4, 0, none⟩) ((outB a1_0 l1_1 l1_2 l1_3 l1_4 pre).length + 1) cap4)
         have hT6 := blk_other (p := ⟨W1.heap.size, 0, none⟩) ((HB4.out.block _ (by omega)).trans (blk_later hT_2 HB3.out)) (by simp <;> omega) (.slice (some ⟨g4, 0, none⟩) ((outB a1_0 l1_1 l1_2 l1_3 l1_4 pre).length + 1) cap4)
         have hS5 := (show Boxed w4 (W1.heap.size + 1) 22 (.slice A0 l0.length c0) from (HB4.out.block _ (by omega)).trans (boxed_later hS2_2 HB3.out)).other (B' := W1.heap.size) (by omega) (.slice (some ⟨g4, 0, none⟩) ((outB a1_0 l1_1 l1_2 l1_3 l1_4 pre).length + 1) cap4)
         have hb5 : Below w.heap.size W (w4.setCell ⟨W1.heap.size, 0, none⟩ (.slice (some ⟨g4, 0, none⟩) ((outB a1_0 l1_1 l1_2 l1_3 l1_4 pre).length + 1) cap4)) := ((hB2.trans (HB3.out.mono (by omega))).trans (HB4.out.mono (by omega))).setCell (p := ⟨W1.heap.size, 0, none⟩) (by simp; omega) _
         refine ⟨(((hK2.trans (keeps_later HB3.out)).trans HK4.out).trans (KeepsOthers.setCell _ _ _)).from _, ⟨hb5, fun _ => ⟨hT5, hS5⟩⟩, ⟨hxl, (Below.heap_setCell _ _ _ _ (by simp; omega)).trans HX4.out⟩, ⟨⟨_, hv4.set _, ?_⟩, hT6, hT5, hS5⟩, hB.trans hb5⟩
         rw [HOUT.out]
         exact Kd.S_mono (Kd.S_far (Kd.S_bound HS4.out) (fun k hk => by have := hk.2.1; simp; omega) _) (fun k hk => hk.1)
   ·go_simp
    refine hK _ _ ?_
    clear hK K
    refine wpAnyIn_ready (rs := [0, 2]) (by kernel_rfl) (by simp) (AllReadyIn.cons rfl (fun K hK => ?_) (AllReadyIn.cons rfl (fun K hK => ?_) AllReadyIn.nil))
    ·go_simp
     refine hK _ _ ?_
     clear hK K
     refine wpAnyIn_ready (rs := [2]) (by kernel_rfl) (by simp) (AllReadyIn.cons rfl (fun K hK => ?_) AllReadyIn.nil)
     ·go_simp
      refine ⟨trivial, (fun h => by cases h), (callsIn_wide.2 HCL.out).mono ?_⟩
      rintro e W3 ⟨v3, rfl, hR3, hb3⟩
      obtain ⟨A3, c3, rfl⟩ := Kd.R_slice hR3
      simp only [hxl] at hR3
      try simp only [hxl]
      refine hK _ _ ?_
      clear hK K
      have hb3' : Below W2.heap.size W2 W3 := (below_drew1 (Below.refl _ _)).trans hb3
      clear hb3
      have HR3 := Aside0.mk (show Kd.R (Kd.int .i64) 3 W3 W2.heap.size (fun k => W2.heap.size ≤ k) (.slice A3 l1_1.length c3) x from Kd.R_mono (Kd.R_bound hR3) (fun k hk => hk.2.1))
      clear hR3
      have hv3 := boxed_later hv2 hb3'
      have hvc3 := hv3.cell
      have hvc3a := fun o => (hv3.alloc o).cell
      have hvf3 := hv3.frozen
      have HB3 := Aside0.mk hb3'
      clear hb3'
      refine wpAnyIn_ready (rs := [3]) (by kernel_rfl) (by simp) (AllReadyIn.cons rfl (fun K hK => ?_) AllReadyIn.nil)
      ·go_simp
       refine hK _ _ ?_
       clear hK K
       refine wpAnyIn_ready (rs := [4]) (by kernel_rfl) (by simp) (AllReadyIn.cons rfl (fun K hK => ?_) AllReadyIn.nil)
       ·refine S_append_if (Kd.slice 3 (Kd.int .i64)) W0.heap.size rfl (.tmp 18) (.tmp 21) 45 29 (.slice none 0 0) 24 rfl Try.underlying45 info29 rfl (by decide) (by omega) (.slice A9 (outB a1_0 l1_1 l1_2 l1_3 l1_4 pre).length c9) (outB a1_0 l1_1 l1_2 l1_3 l1_4 pre) x [.slice A3 l1_1.length c3] (fun k => k ≠ W0.heap.size + 2) (fun k => W2.heap.size ≤ k) rfl rfl ⟨_, rfl, Kd.R_lower HR3.out (by omega)⟩ (fun k hk => ⟨by omega, fun e => by have h_ := HNE.out k e.symm; omega⟩) (fun k hk => by have h_ := HB3.out.size; omega) (Kd.S_mono (Kd.S_below HSS.out HB3.out) (fun k hk => ⟨hk.1, by omega⟩)) (by have h_ := HB3.out.size; omega) (by omega) ?_
        rintro v1 w4 hS4 hg4 ⟨g4, cap4, rfl⟩
        refine hK _ _ ?_
        clear hK K
        have hSS3 := Kd.S_below HSS.out HB3.out
        have hs3 := HB3.out.size
        obtain ⟨hk4, hb4⟩ := S_keeps (base := W0.heap.size) hSS3 (by omega) hg4
        have hx3 : IntRow 3 (W0.heap.size + 2) x W3 := (HB3.out.block _ (by omega)).trans HX2.out
        have hx4 := intRow_later (intRow_later hx3 (World.grownBy_alloc W3 _ none) (by simp)) hg4 (fun e => by have h_ := HNE.out _ e; exact h_.2 rfl)
        have hv4 : Boxed w4 W1.heap.size 45 (.slice A9 (outB a1_0 l1_1 l1_2 l1_3 l1_4 pre).length c9) := (hb4.block _ (by omega)).trans hv3
        have hvc4 := hv4.cell
        have hvf4 := hv4.frozen
        have HS4 := Aside0.mk hS4
        have HK4 := Aside0.mk hk4
        have HB4 := Aside0.mk hb4
        have HX4 := Aside0.mk hx4
        clear hS4 hk4 hb4 hx4 hg4 hSS3 hx3
        refine wpAnyIn_ready (rs := [5]) (by kernel_rfl) (by simp) (AllReadyIn.cons rfl (fun K hK => ?_) AllReadyIn.nil)
        ·go_simp
         refine hK _ _ ?_
         clear hK K
         refine wpAnyIn_done (by kernel_rfl) ?_ _
         gi_wp2
         have hHS := HSZ0.out
         have hT5 := blk_other (p := ⟨W1.heap.size, 0, none⟩) ((HB4.out.block _ (by omega)).trans (blk_later hT2_2 HB3.out)) (by simp <;> omega) (.slice (some ⟨g4, 0, none⟩) ((outB a1_0 l1_1 l1_2 l1_3 l1_4 pre).length + 1) cap4)
         have hT6 := blk_other (p := ⟨W1.heap.size, 0, none⟩) ((HB4.out.block _ (by omega)).trans (blk_later hT_2 HB3.out)) (by simp <;> omega) (.slice (some ⟨g4, 0, none⟩) ((outB a1_0 l1_1 l1_2 l1_3 l1_4 pre).length + 1) cap4)
         have hS5 := (show Boxed w4 (W1.heap.size + 1) 22 (.slice A0 l0.length c0) from (HB4.out.block _ (by omega)).trans (boxed_later hS2_2 HB3.out)).other (B' := W1.heap.size) (by omega) (.slice (some ⟨g4, 0, none⟩) ((outB a1_0 l1_1 l1_2 l1_3 l1_4 pre).length + 1) cap4)
         have hb5 : Below w.heap.size W (w4.setCell ⟨W1.heap.size, 0, none⟩ (.slice (some ⟨g4, 0, none⟩) ((outB a1_0 l1_1 l1_2 l1_3 l1_4 pre).length + 1) cap4)) := ((hB2.trans (HB3.out.mono (by omega))).trans (HB4.out.mono (by omega))).setCell (p := ⟨W1.heap.size, 0, none⟩) (by simp; omega) _
         refine ⟨(((hK2.trans (keeps_later HB3.out)).trans HK4.out).trans (KeepsOthers.setCell _ _ _)).from _, ⟨hb5, fun _ => ⟨hT5, hS5⟩⟩, ⟨hxl, (Below.heap_setCell _ _ _ _ (by simp; omega)).trans HX4.out⟩, ⟨⟨_, hv4.set _, ?_⟩, hT6, hT5, hS5⟩, hB.trans hb5⟩
         rw [HOUT.out]
         exact Kd.S_mono (Kd.S_far (Kd.S_bound HS4.out) (fun k hk => by have := hk.2.1; simp; omega) _) (fun k hk => hk.1)
    ·go_simp
     refine ⟨trivial, (fun h => by cases h), (callsIn_wide.2 HCL.out).mono ?_⟩
     rintro e W3 ⟨v3, rfl, hR3, hb3⟩
     obtain ⟨A3, c3, rfl⟩ := Kd.R_slice hR3
     simp only [hxl] at hR3
     try simp only [hxl]
     refine hK _ _ ?_
     clear hK K
     have hb3' : Below W2.heap.size W2 W3 := (below_drew1 (Below.refl _ _)).trans hb3
     clear hb3
     have HR3 := Aside0.mk (show Kd.R (Kd.int .i64) 3 W3 W2.heap.size (fun k => W2.heap.size ≤ k) (.slice A3 l1_1.length c3) x from Kd.R_mono (Kd.R_bound hR3) (fun k hk => hk.2.1))
     clear hR3
     have hv3 := boxed_later hv2 hb3'
     have hvc3 := hv3.cell
     have hvc3a := fun o => (hv3.alloc o).cell
     have hvf3 := hv3.frozen
     have HB3 := Aside0.mk hb3'
     clear hb3'
     refine wpAnyIn_ready (rs := [0, 3]) (by kernel_rfl) (by simp) (AllReadyIn.cons rfl (fun K hK => ?_) (AllReadyIn.cons rfl (fun K hK => ?_) AllReadyIn.nil))
     ·go_simp
      refine hK _ _ ?_
      clear hK K
      refine wpAnyIn_ready (rs := [3]) (by kernel_rfl) (by simp) (AllReadyIn.cons rfl (fun K hK => ?_) AllReadyIn.nil)
      ·go_simp
       refine hK _ _ ?_
       clear hK K
       refine wpAnyIn_ready (rs := [4]) (by kernel_rfl) (by simp) (AllReadyIn.cons rfl (fun K hK => ?_) AllReadyIn.nil)
       ·refine S_append_if (Kd.slice 3 (Kd.int .i64)) W0.heap.size rfl (.tmp 18) (.tmp 21) 45 29 (.slice none 0 0) 24 rfl Try.underlying45 info29 rfl (by decide) (by omega) (.slice A9 (outB a1_0 l1_1 l1_2 l1_3 l1_4 pre).length c9) (outB a1_0 l1_1 l1_2 l1_3 l1_4 pre) x [.slice A3 l1_1.length c3] (fun k => k ≠ W0.heap.size + 2) (fun k => W2.heap.size ≤ k) rfl rfl ⟨_, rfl, Kd.R_lower HR3.out (by omega)⟩ (fun k hk => ⟨by omega, fun e => by have h_ := HNE.out k e.symm; omega⟩) (fun k hk => by have h_ := HB3.out.size; omega) (Kd.S_mono (Kd.S_below HSS.out HB3.out) (fun k hk => ⟨hk.1, by omega⟩)) (by have h_ := HB3.out.size; omega) (by omega) ?_
        rintro v1 w4 hS4 hg4 ⟨g4, cap4, rfl⟩
        refine hK _ _ ?_
        clear hK K
        have hSS3 := Kd.S_below HSS.out HB3.out
        have hs3 := HB3.out.size
        obtain ⟨hk4, hb4⟩ := S_keeps (base := W0.heap.size) hSS3 (by omega) hg4
        have hx3 : IntRow 3 (W0.heap.size + 2) x W3 := (HB3.out.block _ (by omega)).trans HX2.out
        have hx4 := intRow_later (intRow_later hx3 (World.grownBy_alloc W3 _ none) (by simp)) hg4 (fun e => by have h_ := HNE.out _ e; exact h_.2 rfl)
        have hv4 : Boxed w4 W1.heap.size 45 (.slice A9 (outB a1_0 l1_1 l1_2 l1_3 l1_4 pre).length c9) := (hb4.block _ (by omega)).trans hv3
        have hvc4 := hv4.cell
        have hvf4 := hv4.frozen
        have HS4 := Aside0.mk hS4
        have HK4 := Aside0.mk hk4
        have HB4 := Aside0.mk hb4
        have HX4 := Aside0.mk hx4
        clear hS4 hk4 hb4 hx4 hg4 hSS3 hx3
        refine wpAnyIn_ready (rs := [5]) (by kernel_rfl) (by simp) (AllReadyIn.cons rfl (fun K hK => ?_) AllReadyIn.nil)
        ·go_simp
         refine hK _ _ ?_
         clear hK K
         refine wpAnyIn_done (by kernel_rfl) ?_ _
         gi_wp2
         have hHS := HSZ0.out
         have hT5 := blk_other (p := ⟨W1.heap.size, 0, none⟩) ((HB4.out.block _ (by omega)).trans (blk_later hT2_2 HB3.out)) (by simp <;> omega) (.slice (some ⟨g4, 0, none⟩) ((outB a1_0 l1_1 l1_2 l1_3 l1_4 pre).length + 1) cap4)
         have hT6 := blk_other (p := ⟨W1.heap.size, 0, none⟩) ((HB4.out.block _ (by omega)).trans (blk_later hT_2 HB3.out)) (by simp <;> omega) (.slice (some ⟨g4, 0, none⟩) ((outB a1_0 l1_1 l1_2 l1_3 l1_4 pre).length + 1) cap4)
         have hS5 := (show Boxed w4 (W1.heap.size + 1) 22 (.slice A0 l0.length c0) from (HB4.out.block _ (by omega)).trans (boxed_later hS2_2 HB3.out)).other (B' := W1.heap.size) (by omega) (.slice (some ⟨g4, 0, none⟩) ((outB a1_0 l1_1 l1_2 l1_3 l1_4 pre).length + 1) cap4)
         have hb5 : Below w.heap.size W (w4.setCell ⟨W1.heap.size, 0, none⟩ (.slice (some ⟨g4, 0, none⟩) ((outB a1_0 l1_1 l1_2 l1_3 l1_4 pre).length + 1) cap4)) := ((hB2.trans (HB3.out.mono (by omega))).trans (HB4.out.mono (by omega))).setCell (p := ⟨W1.heap.size, 0, none⟩) (by simp; omega) _
         refine ⟨(((hK2.trans (keeps_later HB3.out)).trans HK4.out).trans (KeepsOthers.setCell _ _ _)).from _, ⟨hb5, fun _ => ⟨hT5, hS5⟩⟩, ⟨hxl, (Below.heap_setCell _ _ _ _ (by simp; omega)).trans HX4.out⟩, ⟨⟨_, hv4.set _, ?_⟩, hT6, hT5, hS5⟩, hB.trans hb5⟩
         rw [HOUT.out]
         exact Kd.S_mono (Kd.S_far (Kd.S_bound HS4.out) (fun k hk => by have := hk.2.1; simp; omega) _) (fun k hk => hk.1)
     ·go_simp
      refine hK _ _ ?_
      clear hK K
      refine wpAnyIn_ready (rs := [0]) (by kernel_rfl) (by simp) (AllReadyIn.cons rfl (fun K hK => ?_) AllReadyIn.nil)
      ·go_simp
       refine hK _ _ ?_
       clear hK K
       refine wpAnyIn_ready (rs := [4]) (by kernel_rfl) (by simp) (AllReadyIn.cons rfl (fun K hK => ?_) AllReadyIn.nil)
       ·refine S_append_if (Kd.slice 3 (Kd.int .i64)) W0.heap.size rfl (.tmp 18) (.tmp 21) 45 29 (.slice none 0 0) 24 rfl Try.underlying45 info29 rfl (by decide) (by omega) (.slice A9 (outB a1_0 l1_1 l1_2 l1_3 l1_4 pre).length c9) (outB a1_0 l1_1 l1_2 l1_3 l1_4 pre) x [.slice A3 l1_1.length c3] (fun k => k ≠ W0.heap.size + 2) (fun k => W2.heap.size ≤ k) rfl rfl ⟨_, rfl, Kd.R_lower HR3.out (by omega)⟩ (fun k hk => ⟨by omega, fun e => by have h_ := HNE.out k e.symm; omega⟩) (fun k hk => by have h_ := HB3.out.size; omega) (Kd.S_mono (Kd.S_below HSS.out HB3.out) (fun k hk => ⟨hk.1, by omega⟩)) (by have h_ := HB3.out.size; omega) (by omega) ?_
        rintro v1 w4 hS4 hg4 ⟨g4, cap4, rfl⟩
        refine hK _ _ ?_
        clear hK K
        have hSS3 := Kd.S_below HSS.out HB3.out
        have hs3 := HB3.out.size
        obtain ⟨hk4, hb4⟩ := S_keeps (base := W0.heap.size) hSS3 (by omega) hg4
        have hx3 : IntRow 3 (W0.heap.size + 2) x W3 := (HB3.out.block _ (by omega)).trans HX2.out
        have hx4 := intRow_later (intRow_later hx3 (World.grownBy_alloc W3 _ none) (by simp)) hg4 (fun e => by have h_ := HNE.out _ e; exact h_.2 rfl)
        have hv4 : Boxed w4 W1.heap.size 45 (.slice A9 (outB a1_0 l1_1 l1_2 l1_3 l1_4 pre).length c9) := (hb4.block _ (by omega)).trans hv3
        have hvc4 := hv4.cell
        have hvf4 := hv4.frozen
        have HS4 := Aside0.mk hS4
        have HK4 := Aside0.mk hk4
        have HB4 := Aside0.mk hb4
        have HX4 := Aside0.mk hx4
        clear hS4 hk4 hb4 hx4 hg4 hSS3 hx3
        refine wpAnyIn_ready (rs := [5]) (by kernel_rfl) (by simp) (AllReadyIn.cons rfl (fun K hK => ?_) AllReadyIn.nil)
        ·go_simp
         refine hK _ _ ?_
         clear hK K
         refine wpAnyIn_done (by kernel_rfl) ?_ _
         gi_wp2
         have hHS := HSZ0.out
         have hT5 := blk_other (p := ⟨W1.heap.size, 0, none⟩) ((HB4.out.block _ (by omega)).trans (blk_later hT2_2 HB3.out)) (by simp <;> omega) (.slice (some ⟨g4, 0, none⟩) ((outB a1_0 l1_1 l1_2 l1_3 l1_4 pre).length + 1) cap4)
         have hT6 := blk_other (p := ⟨W1.heap.size, 0, none⟩) ((HB4.out.block _ (by omega)).trans (blk_later hT_2 HB3.out)) (by simp <;> omega) (.slice (some ⟨g4, 0, none⟩) ((outB a1_0 l1_1 l1_2 l1_3 l1_4 pre).length + 1) cap4)
         have hS5 := (show Boxed w4 (W1.heap.size + 1) 22 (.slice A0 l0.length c0) from (HB4.out.block _ (by omega)).trans (boxed_later hS2_2 HB3.out)).other (B' := W1.heap.size) (by omega) (.slice (some ⟨g4, 0, none⟩) ((outB a1_0 l1_1 l1_2 l1_3 l1_4 pre).length + 1) cap4)
         have hb5 : Below w.heap.size W (w4.setCell ⟨W1.heap.size, 0, none⟩ (.slice (some ⟨g4, 0, none⟩) ((outB a1_0 l1_1 l1_2 l1_3 l1_4 pre).length + 1) cap4)) := ((hB2.trans (HB3.out.mono (by omega))).trans (HB4.out.mono (by omega))).setCell (p := ⟨W1.heap.size, 0, none⟩) (by simp; omega) _
         refine ⟨(((hK2.trans (keeps_later HB3.out)).trans HK4.out).trans (KeepsOthers.setCell _ _ _)).from _, ⟨hb5, fun _ => ⟨hT5, hS5⟩⟩, ⟨hxl, (Below.heap_setCell _ _ _ _ (by simp; omega)).trans HX4.out⟩, ⟨⟨_, hv4.set _, ?_⟩, hT6, hT5, hS5⟩, hB.trans hb5⟩
         rw [HOUT.out]
         exact Kd.S_mono (Kd.S_far (Kd.S_bound HS4.out) (fun k hk => by have := hk.2.1; simp; omega) _) (fun k hk => hk.1)
 case done =>
  rintro D ys W hD rfl ⟨⟨⟨v, hv, hS⟩, hT, hT2, hS2⟩, hB⟩ hK
  obtain ⟨A9, c9, rfl⟩ := Kd.S_slice hS
  have hc := hv.cell
  have HS := Aside0.mk hS
  have HSZ0 := Aside0.mk hsz0
  clear hsz0 hS
  gi_wp2
  refine ⟨by simp, .inl ⟨_, _, rfl, run_takeDeferred hK, ?_⟩⟩
  exact ⟨_, results_tmp rfl _ _ _, _, rfl, S_putObj _ HS.out hK rfl (by have := HSZ0.out; omega), hB.trans (belowK_b (w := w) (Nat.le_refl _) W D _ _ (by have := HSZ0.out; omega) hK rfl rfl)⟩

set_option maxRecDepth 100000 in
set_option maxHeartbeats 4000000 in
theorem binding_All.bad (n : Nat) (hn : 4 ≤ n) (A0 : Option Addr) (c0 : Nat) (l0 : List S51) (a1_0 : ByteArray) (A1_1 : Option Addr) (c1_1 : Nat) (l1_1 : List S48) (A1_2 : Option Addr) (c1_2 : Nat) (l1_2 : List S62) (A1_3 : Option Addr) (c1_3 : Nat) (l1_3 : List S111) (A1_4 : Option Addr) (c1_4 : Nat) (l1_4 : List S111) (r : Int) (w : World) (hr0 : Kd.C k51 w A0 l0.length l0) (hc0 : l0.length ≤ c0) (hr1_1 : Kd.C k48 w A1_1 l1_1.length l1_1) (hc1_1 : l1_1.length ≤ c1_1) (hr1_2 : Kd.C k62 w A1_2 l1_2.length l1_2) (hc1_2 : l1_2.length ≤ c1_2) (hr1_3 : Kd.C k111 w A1_3 l1_3.length l1_3) (hc1_3 : l1_3.length ≤ c1_3) (hr1_4 : Kd.C k111 w A1_4 l1_4.length l1_4) (hc1_4 : l1_4.length ≤ c1_4)
  (hck : binding_Check.f l0 a1_0 l1_1 l1_2 l1_3 l1_4 = some r) (hr : r ≠ 0) :
  CallsIn Fence.wide n Try.prog 24 #[.slice A0 l0.length c0, .agg #[.string a1_0, .slice A1_1 l1_1.length c1_1, .slice A1_2 l1_2.length c1_2, .slice A1_3 l1_3.length c1_3, .slice A1_4 l1_4.length c1_4]] w fun e W' => ∃ v0_ : Value, e = .returned (v0_) ∧ Kd.S (Kd.slice 3 (Kd.int .i64)) 29 W' w.heap.size (fun _ => True) v0_ [] ∧ Below w.heap.size w W' := by
 have h1 : 1 ≤ n := by omega
 have q : (r != 0) = true := bne_iff_ne.2 hr
 have HR0 := Aside0.mk hr0
 have HC0 := Aside0.mk hc0
 have HR1 := Aside0.mk hr1_1
 have HC1 := Aside0.mk hc1_1
 have HR2 := Aside0.mk hr1_2
 have HC2 := Aside0.mk hc1_2
 have HR3 := Aside0.mk hr1_3
 have HC3 := Aside0.mk hc1_3
 have HR4 := Aside0.mk hr1_4
 have HC4 := Aside0.mk hc1_4
 have HCK := Aside0.mk hck
 clear hr0 hc0 hr1_1 hc1_1 hr1_2 hc1_2 hr1_3 hc1_3 hr1_4 hc1_4 hck hr
 refine callsIn_of_wp_marks Try.func24 rfl trivial ?_ rfl
 simp only [Try.ntmps24, List.size_toArray, List.length_cons, List.length_nil, Nat.reduceAdd, Nat.reduceSub, Array.replicate_succ, Array.replicate_zero, List.push_toArray, List.append_toArray, List.nil_append, List.cons_append]
 gi_wp2
 refine ⟨trivial, (callsIn_wide.2 (binding_Check.calls A0 c0 l0 a1_0 A1_1 c1_1 l1_1 A1_2 c1_2 l1_2 A1_3 c1_3 l1_3 A1_4 c1_4 l1_4 r _ (Kd.C_alloc HR0.out _) HC0.out (Kd.C_alloc HR1.out _) HC1.out (Kd.C_alloc HR2.out _) HC2.out (Kd.C_alloc HR3.out _) HC3.out (Kd.C_alloc HR4.out _) HC4.out HCK.out)).mono ?_⟩
 rintro e W1 ⟨rfl, hb1⟩
 rw [World.size_alloc] at hb1
 have hB1 : Below w.heap.size w W1 := ((Below.refl _ w).alloc (Nat.le_refl _) _).trans (hb1.mono (by omega))
 clear hb1
 gi_wp2
 exact ⟨_, results_tmp rfl _ _ _, _, rfl, Kd.S_nil _ _ _ _ _, hB1⟩

theorem binding_All.calls (A0 : Option Addr) (c0 : Nat) (l0 : List S51) (a1_0 : ByteArray) (A1_1 : Option Addr) (c1_1 : Nat) (l1_1 : List S48) (A1_2 : Option Addr) (c1_2 : Nat) (l1_2 : List S62) (A1_3 : Option Addr) (c1_3 : Nat) (l1_3 : List S111) (A1_4 : Option Addr) (c1_4 : Nat) (l1_4 : List S111) (r : List (List Int)) (w : World) (hr0 : Kd.C k51 w A0 l0.length l0) (hc0 : l0.length ≤ c0) (hr1_1 : Kd.C k48 w A1_1 l1_1.length l1_1) (hc1_1 : l1_1.length ≤ c1_1) (hr1_2 : Kd.C k62 w A1_2 l1_2.length l1_2) (hc1_2 : l1_2.length ≤ c1_2) (hr1_3 : Kd.C k111 w A1_3 l1_3.length l1_3) (hc1_3 : l1_3.length ≤ c1_3) (hr1_4 : Kd.C k111 w A1_4 l1_4.length l1_4) (hc1_4 : l1_4.length ≤ c1_4) (h : binding_All.f l0 a1_0 l1_1 l1_2 l1_3 l1_4 = some r) :
  Calls Try.prog 24 #[.slice A0 l0.length c0, .agg #[.string a1_0, .slice A1_1 l1_1.length c1_1, .slice A1_2 l1_2.length c1_2, .slice A1_3 l1_3.length c1_3, .slice A1_4 l1_4.length c1_4]] w fun e w' => ∃ v0_ : Value, e = .returned (v0_) ∧ Kd.S (Kd.slice 3 (Kd.int .i64)) 29 w' w.heap.size (fun _ => True) v0_ r ∧ Below w.heap.size w w' := by
 unfold binding_All.f at h
 obtain ⟨e, hck, h⟩ := Option.bind_eq_some_iff.mp h
 try dsimp only at h
 split at h
 ·rename_i he
  obtain rfl := Option.some.inj h
  exact (callsIn_wide (n := 4)).1 (binding_All.bad 4 (by omega) A0 c0 l0 a1_0 A1_1 c1_1 l1_1 A1_2 c1_2 l1_2 A1_3 c1_3 l1_3 A1_4 c1_4 l1_4 e w hr0 hc0 hr1_1 hc1_1 hr1_2 hc1_2 hr1_3 hc1_3 hr1_4 hc1_4 hck he)
 ·rename_i he
  have he0 : e = 0 := Decidable.not_not.1 he
  subst he0
  split at h
  ·rename_i hl
   obtain ⟨zs, hz, h⟩ := Option.bind_eq_some_iff.mp h
   try dsimp only at h
   split at h
   ·rename_i hc
    obtain rfl := Option.some.inj h
    exact (callsIn_wide (n := 4)).1 (binding_All.in_ 4 (by omega) A0 c0 l0 a1_0 A1_1 c1_1 l1_1 A1_2 c1_2 l1_2 A1_3 c1_3 l1_3 A1_4 c1_4 l1_4 w hr0 hc0 hr1_1 hc1_1 hr1_2 hc1_2 hr1_3 hc1_3 hr1_4 hc1_4 hck hl zs hz hc.1 hc.2.1 hc.2.2)
   ·cases h
  ·cases h


end



/-! ### l40_three: function 27 -/
def l40_three.f  : Option ((List (S51))) := some (([(⟨(⟨#[115]⟩ : ByteArray), (([(⟨#[97]⟩ : ByteArray), (⟨#[98]⟩ : ByteArray), (⟨#[99]⟩ : ByteArray)] : List ByteArray))⟩ : S51)] : List (S51)))
set_option maxHeartbeats 8000000 in
set_option maxRecDepth 100000 in
theorem l40_three.calls  (r : List (S51)) (w : World) (h : l40_three.f  = some r) :
  Calls Try.prog 27 #[] w fun e w' => ∃ v0_ : Value, e = .returned (v0_) ∧ Kd.N k51 51 w' w.heap.size (fun k_ => (w.heap.size ≤ k_)) v0_ r ∧ Below w.heap.size w w' := by
 have hu51 := Try.underlying51; have hu9 := Try.underlying9; have hu49 := Try.underlying49; have HB := aM (Below.refl w.heap.size w)
 have H : (some (([(⟨(⟨#[115]⟩ : ByteArray), (([(⟨#[97]⟩ : ByteArray), (⟨#[98]⟩ : ByteArray), (⟨#[99]⟩ : ByteArray)] : List ByteArray))⟩ : S51)] : List (S51)))) = some r := h
 clear h
 obtain ⟨y170, hy170⟩ : ∃ y_ : List ByteArray, y_ = (([(⟨#[97]⟩ : ByteArray), (⟨#[98]⟩ : ByteArray), (⟨#[99]⟩ : ByteArray)] : List ByteArray)) := ⟨_, rfl⟩
 replace H : (some (([(⟨(⟨#[115]⟩ : ByteArray), y170⟩ : S51)] : List (S51)))) = some r := by first | (rw [hy170]; with_reducible exact H) | (have H2_ := (Option.bind_some _ _).symm.trans H; rw [hy170]; with_reducible exact H2_) | (have H2_ := (Option.bind_some _ _).symm.trans H; with_reducible exact H2_) | with_reducible exact H | (rw [hy170]; exact H) | exact H
 have Ny170 := aM hy170; clear hy170
 obtain ⟨y173, hy173⟩ : ∃ y_ : List (S51), y_ = (([(⟨(⟨#[115]⟩ : ByteArray), y170⟩ : S51)] : List (S51))) := ⟨_, rfl⟩
 replace H : (some y173) = some r := by first | (rw [hy173]; with_reducible exact H) | (have H2_ := (Option.bind_some _ _).symm.trans H; rw [hy173]; with_reducible exact H2_) | (have H2_ := (Option.bind_some _ _).symm.trans H; with_reducible exact H2_) | with_reducible exact H | (rw [hy173]; exact H) | exact H
 have Ny173 := aM hy173; clear hy173
 obtain rfl := Option.some.inj H
 go_enter Try.func27, Try.ntmps27
 go_wp2_with (first | ((with_reducible refine gate_dst (N := 1) rfl ?_); refine Kd.R_lit Kd.string _ 9 ?hg (N := 1) ?hd (xs := ([(⟨#[97]⟩ : ByteArray), (⟨#[98]⟩ : ByteArray), (⟨#[99]⟩ : ByteArray)] : List ByteArray)) (inner := [.string (⟨#[97]⟩ : ByteArray), .string (⟨#[98]⟩ : ByteArray), .string (⟨#[99]⟩ : ByteArray)]) (ok := fun _ => True) (okp := fun _ => True) ?hr ?hp (fun _ hk => hk) trivial (Below.refl _ _) (Nat.le_refl _) (by simp) ?_; (case hd => rfl); (case hg => rfl); (case hr => first | (go_simp; done) | (go_simp; rfl)); (case hp => exact (Reps.one (show Kd.M Kd.string _ _ _ (⟨#[97]⟩ : ByteArray) [.string (⟨#[97]⟩ : ByteArray)] from rfl) (Reps.one (show Kd.M Kd.string _ _ _ (⟨#[98]⟩ : ByteArray) [.string (⟨#[98]⟩ : ByteArray)] from rfl) (Reps.one (show Kd.M Kd.string _ _ _ (⟨#[99]⟩ : ByteArray) [.string (⟨#[99]⟩ : ByteArray)] from rfl) (Reps.none _ _))))); intro v171 w1 ho2 hb hg_ hnew_; clear hg_ hnew_; (first | rw [← Ny170.out] at ho2 | (simp only [Int.reduceToNat] at ho2; rw [← Ny170.out] at ho2)); have n0_ := aM (Kd.R_lower (Kd.R_newM (M := fun k_ => (w.heap.size ≤ k_)) ho2 (below_size (bB HB.out)) (fun k_ h_ => h_)) (below_size (bB HB.out))); have n1_ := aM (below_step (bB HB.out) hb); clear HB; have HO172 := n0_; have HB := n1_; clear n0_ n1_; clear hb ho2; obtain ⟨Ao3, co3, eo3⟩ := Kd.R_slice HO172.out; subst eo3) | ((with_reducible refine gate_dst (N := 3) rfl ?_); refine Kd.N_lit k51 _ 51 ?hg (N' := 3) ?hd (xs := ([(⟨(⟨#[115]⟩ : ByteArray), y170⟩ : S51)] : List (S51))) (inner := [.string (⟨#[115]⟩ : ByteArray), .slice Ao3 y170.length co3]) (ok := (fun k_ => (w.heap.size ≤ k_))) (okp := (fun k_ => (w.heap.size ≤ k_))) ?hr ?hp (fun _ hk => hk) ((show ∀ k_, w1.heap.size ≤ k_ → (fun k_ => (w.heap.size ≤ k_)) k_ from fun k_ hk => (Nat.le_trans (below_size (bB HB.out)) hk)) _ (Nat.le_refl _)) (Below.refl _ _) (Nat.le_refl _) (by simp) ?_; (case hd => rfl); (case hg => rfl); (case hr => first | (go_simp; done) | (go_simp; rfl)); (case hp => exact (Reps.c2 (show Kd.FK k51 _ _ (⟨(⟨#[115]⟩ : ByteArray), y170⟩ : S51) [.string (⟨#[115]⟩ : ByteArray), .slice Ao3 y170.length co3] from (k51_mkF _ _ (⟨(⟨#[115]⟩ : ByteArray), y170⟩ : S51) (Kd.R_reads' (Kd.R_mono (ok' := (fun k_ => (w.heap.size ≤ k_))) (HO172.out) (fun k_ hk => hk.1))).2.1 (Kd.R_F (Kd.R_mono (ok' := (fun k_ => (w.heap.size ≤ k_))) (HO172.out) (fun k_ hk => hk.1))))) (Reps.none _ _))); intro v174 w4 ho5 hb hg_ hnew_; clear hg_ hnew_; (first | rw [← Ny173.out] at ho5 | (simp only [Int.reduceToNat] at ho5; rw [← Ny173.out] at ho5)); have n0_ := aM (Kd.N_lower ho5 (below_size (bB HB.out))); have n1_ := aM (below_step (bB HB.out) hb); clear HB; clear HO172; have HO175 := n0_; have HB := n1_; clear n0_ n1_; clear hb ho5))
 go_ret
 exact ⟨_, rT, oN HO175.out, bB HB.out⟩


/-! ### l40_pair: function 28 -/
def l40_pair.f  : Option (ByteArray × (List (S48)) × (List (S62)) × (List (S111)) × (List (S111))) := some ((⟨#[]⟩ : ByteArray), (([(⟨(⟨#[120]⟩ : ByteArray), 0⟩ : S48), (⟨(⟨#[121]⟩ : ByteArray), 0⟩ : S48)] : List (S48))), (([(⟨3, 0, 1⟩ : S62)] : List (S62))), ([] : List (S111)), ([] : List (S111)))
set_option maxHeartbeats 8000000 in
set_option maxRecDepth 100000 in
theorem l40_pair.calls  (r1 : ByteArray) (r2 : List (S48)) (r3 : List (S62)) (r4 : List (S111)) (r5 : List (S111)) (w : World) (h : l40_pair.f  = some (r1, r2, r3, r4, r5)) :
  Calls Try.prog 28 #[] w fun e w' => ∃ v1_ v2_ v3_ v4_ : Value, e = .returned (.agg #[.string r1, v1_, v2_, v3_, v4_]) ∧ Kd.R k48 48 w' w.heap.size (fun _ => True) v1_ r2 ∧ Kd.R k62 62 w' w.heap.size (fun _ => True) v2_ r3 ∧ Kd.S k111 111 w' w.heap.size (fun k_ => some k_ ≠ (v4_ : Value).ownBlock) v3_ r4 ∧ Kd.S k111 111 w' w.heap.size (fun k_ => some k_ ≠ (v3_ : Value).ownBlock) v4_ r5 ∧ Below w.heap.size w w' := by
 have hu27 := Try.underlying27; have hu9 := Try.underlying9; have hu23 := Try.underlying23; have hu24 := Try.underlying24; have hu25 := Try.underlying25; have hu48 := Try.underlying48; have hu3 := Try.underlying3; have hu9 := Try.underlying9; have hu62 := Try.underlying62; have hu3 := Try.underlying3; have HB := aM (Below.refl w.heap.size w)
 have H : (some ((⟨#[]⟩ : ByteArray), (([(⟨(⟨#[120]⟩ : ByteArray), 0⟩ : S48), (⟨(⟨#[121]⟩ : ByteArray), 0⟩ : S48)] : List (S48))), (([(⟨3, 0, 1⟩ : S62)] : List (S62))), ([] : List (S111)), ([] : List (S111)))) = some (r1, r2, r3, r4, r5) := h
 clear h
 obtain ⟨y177, hy177⟩ : ∃ y_ : List (S48), y_ = (([(⟨(⟨#[120]⟩ : ByteArray), 0⟩ : S48), (⟨(⟨#[121]⟩ : ByteArray), 0⟩ : S48)] : List (S48))) := ⟨_, rfl⟩
 replace H : (some ((⟨#[]⟩ : ByteArray), y177, (([(⟨3, 0, 1⟩ : S62)] : List (S62))), ([] : List (S111)), ([] : List (S111)))) = some (r1, r2, r3, r4, r5) := by first | (rw [hy177]; with_reducible exact H) | (have H2_ := (Option.bind_some _ _).symm.trans H; rw [hy177]; with_reducible exact H2_) | (have H2_ := (Option.bind_some _ _).symm.trans H; with_reducible exact H2_) | with_reducible exact H | (rw [hy177]; exact H) | exact H
 have Ny177 := aM hy177; clear hy177
 obtain ⟨y180, hy180⟩ : ∃ y_ : List (S62), y_ = (([(⟨3, 0, 1⟩ : S62)] : List (S62))) := ⟨_, rfl⟩
 replace H : (some ((⟨#[]⟩ : ByteArray), y177, y180, ([] : List (S111)), ([] : List (S111)))) = some (r1, r2, r3, r4, r5) := by first | (rw [hy180]; with_reducible exact H) | (have H2_ := (Option.bind_some _ _).symm.trans H; rw [hy180]; with_reducible exact H2_) | (have H2_ := (Option.bind_some _ _).symm.trans H; with_reducible exact H2_) | with_reducible exact H | (rw [hy180]; exact H) | exact H
 have Ny180 := aM hy180; clear hy180
 simp only [Option.some.injEq, Prod.mk.injEq] at H
 obtain ⟨rfl, rfl, rfl, rfl, rfl⟩ := H
 go_enter Try.func28, Try.ntmps28
 go_wp2_with (first | ((with_reducible refine gate_dst (N := 0) rfl ?_); refine box_event ?hg (N := 0) ?hd (cs := #[.string (⟨#[]⟩ : ByteArray), .slice none 0 0, .slice none 0 0, .slice none 0 0, .slice none 0 0]) (t := 27) ?hr ?_; (case hd => rfl); (case hg => rfl); (case hr => first | (go_simp; done) | (go_simp; rfl)); intro gb176 hg w1 hbox hb; have n0_ := aM (below_step (bB HB.out) hb); have n1_ := aM (hbox); have n2_ := aM ((by rw [hg]; exact (below_size (bB HB.out)) : w.heap.size ≤ gb176)); have n3_ := aM ((by rw [hg]; exact (below_size (bB HB.out)) : w.heap.size ≤ gb176)); clear HB; have HB := n0_; have BK176 := n1_; have GW176 := n2_; have GE176 := n3_; clear n0_ n1_ n2_ n3_; clear hb hbox hg) | ((with_reducible refine gate_dst (N := 3) rfl ?_); refine Kd.R_lit k48 _ 48 ?hg (N := 3) ?hd (xs := ([(⟨(⟨#[120]⟩ : ByteArray), 0⟩ : S48), (⟨(⟨#[121]⟩ : ByteArray), 0⟩ : S48)] : List (S48))) (inner := [.string (⟨#[120]⟩ : ByteArray), .int .i64 0, .string (⟨#[121]⟩ : ByteArray), .int .i64 0]) (ok := fun _ => True) (okp := fun _ => True) ?hr ?hp (fun _ hk => hk) trivial (Below.refl _ _) (Nat.le_refl _) (by simp) ?_; (case hd => rfl); (case hg => rfl); (case hr => first | (go_simp; done) | (go_simp; rfl)); (case hp => exact (Reps.c2 (show Kd.M k48 _ _ _ (⟨(⟨#[120]⟩ : ByteArray), 0⟩ : S48) [.string (⟨#[120]⟩ : ByteArray), .int .i64 0] from (k48_mkM _ _ _ (⟨(⟨#[120]⟩ : ByteArray), 0⟩ : S48) )) (Reps.c2 (show Kd.M k48 _ _ _ (⟨(⟨#[121]⟩ : ByteArray), 0⟩ : S48) [.string (⟨#[121]⟩ : ByteArray), .int .i64 0] from (k48_mkM _ _ _ (⟨(⟨#[121]⟩ : ByteArray), 0⟩ : S48) )) (Reps.none _ _)))); intro v178 w2 ho3 hb hg_ hnew_; clear hg_ hnew_; (first | rw [← Ny177.out] at ho3 | (simp only [Int.reduceToNat] at ho3; rw [← Ny177.out] at ho3)); have n0_ := aM (Kd.R_lower ho3 (below_size (bB1 HB.out GE176.out))); have n1_ := aM (kW BK176.out hb); have n2_ := aM (below_step (bB1 HB.out GE176.out) hb); clear BK176; clear HB; have HO179 := n0_; have BK176 := n1_; have HB := n2_; clear n0_ n1_ n2_; clear hb ho3) | ((with_reducible refine gate_dst (N := 5) rfl ?_); refine Kd.R_lit k62 _ 62 ?hg (N := 5) ?hd (xs := ([(⟨3, 0, 1⟩ : S62)] : List (S62))) (inner := [.int .i64 3, .int .i64 0, .int .i64 1]) (ok := fun _ => True) (okp := fun _ => True) ?hr ?hp (fun _ hk => hk) trivial (Below.refl _ _) (Nat.le_refl _) (by simp) ?_; (case hd => rfl); (case hg => rfl); (case hr => first | (go_simp; done) | (go_simp; rfl)); (case hp => exact (Reps.c3 (show Kd.M k62 _ _ _ (⟨3, 0, 1⟩ : S62) [.int .i64 3, .int .i64 0, .int .i64 1] from (k62_mkM _ _ _ (⟨3, 0, 1⟩ : S62) )) (Reps.none _ _))); intro v181 w4 ho5 hb hg_ hnew_; clear hg_ hnew_; (first | rw [← Ny180.out] at ho5 | (simp only [Int.reduceToNat] at ho5; rw [← Ny180.out] at ho5)); have n0_ := aM (Kd.R_below (oR HO179.out) hb); have n1_ := aM (Kd.R_lower ho5 (below_size (bB1 HB.out GE176.out))); have n2_ := aM (kW BK176.out hb); have n3_ := aM (below_step (bB1 HB.out GE176.out) hb); clear HO179; clear BK176; clear HB; have HO179 := n0_; have HO182 := n1_; have BK176 := n2_; have HB := n3_; clear n0_ n1_ n2_ n3_; clear hb ho5; obtain ⟨Ao6, co6, eo6⟩ := Kd.R_slice HO182.out; subst eo6; obtain ⟨Ao7, co7, eo7⟩ := Kd.R_slice HO179.out; subst eo7; have hcz8_0 : w4.cell? ⟨gb176, 0, none⟩ = some (.string (⟨#[]⟩ : ByteArray)) := (blk_cell BK176.out 0).trans rfl; have hcz8_1 : w4.cell? ⟨gb176, 1, none⟩ = some (.slice none 0 0) := (blk_cell BK176.out 1).trans rfl; have hcz8_2 : w4.cell? ⟨gb176, 2, none⟩ = some (.slice none 0 0) := (blk_cell BK176.out 2).trans rfl; have hcz8_3 : w4.cell? ⟨gb176, 3, none⟩ = some (.slice none 0 0) := (blk_cell BK176.out 3).trans rfl; have hcz8_4 : w4.cell? ⟨gb176, 4, none⟩ = some (.slice none 0 0) := (blk_cell BK176.out 4).trans rfl; have hfz8_0 := blk_frozen BK176.out 0; have hfz8_1 := blk_frozen BK176.out 1; have hfz8_2 := blk_frozen BK176.out 2; have hfz8_3 := blk_frozen BK176.out 3; have hfz8_4 := blk_frozen BK176.out 4))
 refine bodyPost_ret (results_cell_row rfl _ _ gb176 27 #[.string (⟨#[]⟩ : ByteArray), .slice Ao7 y177.length co7, .slice Ao6 y180.length co6, .slice none 0 0, .slice none 0 0] (0, 0) _ rfl (by refine kR ?_; refine blk_put (cs := #[.string (⟨#[]⟩ : ByteArray), .slice Ao7 y177.length co7, .slice Ao6 y180.length co6, .slice none 0 0, .slice none 0 0]) ?_ 4 _ rfl; refine kR ?_; refine blk_put (cs := #[.string (⟨#[]⟩ : ByteArray), .slice Ao7 y177.length co7, .slice Ao6 y180.length co6, .slice none 0 0, .slice none 0 0]) ?_ 3 _ rfl; refine kR ?_; refine blk_put (cs := #[.string (⟨#[]⟩ : ByteArray), .slice Ao7 y177.length co7, .slice none 0 0, .slice none 0 0, .slice none 0 0]) ?_ 2 _ rfl; refine kR ?_; refine blk_put (cs := #[.string (⟨#[]⟩ : ByteArray), .slice none 0 0, .slice none 0 0, .slice none 0 0, .slice none 0 0]) ?_ 1 _ rfl; refine kR ?_; refine blk_put (cs := #[.string (⟨#[]⟩ : ByteArray), .slice none 0 0, .slice none 0 0, .slice none 0 0, .slice none 0 0]) ?_ 0 _ rfl; refine kR ?_; exact BK176.out) Try.underlying27 rfl (by kernel_rfl)) rfl ?_
 exact ⟨_, _, _, _, rT, by refine oR ?_; exact Kd.R_mono (Kd.R_far (p := ⟨gb176, 4, none⟩) (Kd.R_far (p := ⟨gb176, 3, none⟩) (Kd.R_far (p := ⟨gb176, 2, none⟩) (Kd.R_far (p := ⟨gb176, 1, none⟩) (Kd.R_far (p := ⟨gb176, 0, none⟩) (Kd.R_types HO179.out BK176.out (by decide)) (fun _ hk => hk.2) (.string (⟨#[]⟩ : ByteArray))) (fun _ hk => hk.2) (.slice Ao7 y177.length co7)) (fun _ hk => hk.2) (.slice Ao6 y180.length co6)) (fun _ hk => hk.2) (.slice none 0 0)) (fun _ hk => hk.2) (.slice none 0 0)) (fun _ hk => trivial), by refine oR ?_; exact Kd.R_mono (Kd.R_far (p := ⟨gb176, 4, none⟩) (Kd.R_far (p := ⟨gb176, 3, none⟩) (Kd.R_far (p := ⟨gb176, 2, none⟩) (Kd.R_far (p := ⟨gb176, 1, none⟩) (Kd.R_far (p := ⟨gb176, 0, none⟩) (Kd.R_types HO182.out BK176.out (by decide)) (fun _ hk => hk.2) (.string (⟨#[]⟩ : ByteArray))) (fun _ hk => hk.2) (.slice Ao7 y177.length co7)) (fun _ hk => hk.2) (.slice Ao6 y180.length co6)) (fun _ hk => hk.2) (.slice none 0 0)) (fun _ hk => hk.2) (.slice none 0 0)) (fun _ hk => trivial), by first | exact Kd.S_nil _ _ _ _ _ | exact Kd.N_nil _ _ _ _ _ | exact Kd.V_nil _ _ _ _ _ | exact Kd.Q_nil _ _ _ _ _ | exact Kd.R_nil _ _ _ _ _, by first | exact Kd.S_nil _ _ _ _ _ | exact Kd.N_nil _ _ _ _ _ | exact Kd.V_nil _ _ _ _ _ | exact Kd.Q_nil _ _ _ _ _ | exact Kd.R_nil _ _ _ _ _, bB1 HB.out GE176.out⟩




/-! ### l40_lives: function 10 -/
mutual
def l40_lives.j0 : Nat → List (S51) → Bool → ByteArray → List (S48) → List (S62) → List (S111) → List (S111) → Option (Bool)
 | 0, _, _, _, _, _, _, _ => none
 | k + 1, x1, x109, x200000, x200001, x200002, x200003, x200004 => if x109 = true then (some false) else ((binding_Check.f x1 x200000 x200001 x200002 x200003 x200004).bind fun t233 => (if t233 = 0 then ((binding_Check.f ([] : List (S51)) x200000 x200001 x200002 x200003 x200004).bind fun t234 => (if t234 = 2 then ((binding_CheckTerms.f k x1 x200000 x200001 x200002 x200003 x200004 0 (([(⟨0, 5, 0⟩ : S54)] : List (S54)))).bind fun t238 => (l40_lives.j1 k x1 (t238 != 9) x200000 x200001 x200002 x200003 x200004)) else (l40_lives.j1 k x1 true x200000 x200001 x200002 x200003 x200004))) else (l40_lives.j1 k x1 true x200000 x200001 x200002 x200003 x200004)))
def l40_lives.j1 : Nat → List (S51) → Bool → ByteArray → List (S48) → List (S62) → List (S111) → List (S111) → Option (Bool)
 | 0, _, _, _, _, _, _, _ => none
 | k + 1, x1, x126, x200000, x200001, x200002, x200003, x200004 => if x126 = true then (some false) else ((binding_Holds.f k x1 x200000 x200001 x200002 x200003 x200004 (([0, 1] : List Int))).bind fun t242 => (if t242 = true then ((binding_Holds.f k x1 x200000 x200001 x200002 x200003 x200004 (([1, 1] : List Int))).bind fun t246 => (if t246 = true then (some false) else ((binding_Text.f k x1 x200000 x200001 x200002 x200003 x200004 (([0, 2] : List Int))).bind fun t250 => (some (t250.toList == ([120, 61, 97, 44, 121, 61, 99] : List UInt8)))))) else (some false)))
end
def l40_lives.f (k : Nat)  : Option (Bool) := (l40_three.f).bind fun t183 => ((l40_pair.f).bind fun bt186 => ((binding_All.f t183 bt186.1 bt186.2.1 bt186.2.2.1 bt186.2.2.2.1 bt186.2.2.2.2).bind fun t200 => ((binding_Eval.f k t183 bt186.1 bt186.2.1 bt186.2.2.1 bt186.2.2.2.1 bt186.2.2.2.2 0 (([(⟨2, 3, 1⟩ : S54), (⟨1, 5, 0⟩ : S54)] : List (S54))) (([0, 2] : List Int))).bind fun bt209 => ((binding_Eval.f k t183 bt186.1 bt186.2.1 bt186.2.2.1 bt186.2.2.2.1 bt186.2.2.2.2 0 ([] : List (S54)) (([0, 3] : List Int))).bind fun bt216 => (if (t200.length : Int) = 3 then (if 0 < (t200.length : Int) then (if ((rd_L15 t200 0).length : Int) = 2 then (if 0 < ((rd_L15 t200 0).length : Int) then (if (rd (rd_L15 t200 0) 0) = 0 then (if 1 < ((rd_L15 t200 0).length : Int) then (if (rd (rd_L15 t200 0) 1) = 1 then (if 2 < (t200.length : Int) then (if ((rd_L15 t200 2).length : Int) = 2 then (if 0 < ((rd_L15 t200 2).length : Int) then (if (rd (rd_L15 t200 2) 0) = 1 then (if 1 < ((rd_L15 t200 2).length : Int) then (if (rd (rd_L15 t200 2) 1) = 2 then (if (bt209.1.length : Int) = 3 then (if 0 < (bt209.1.length : Int) then (if (rd bt209.1 0) = 3 then (if 1 < (bt209.1.length : Int) then (if (rd bt209.1 1) = 1 then (if 2 < (bt209.1.length : Int) then (if (rd bt209.1 2) = 1 then (if bt209.2 = 0 then (l40_lives.j0 k t183 (bt216.2 != 15) bt186.1 bt186.2.1 bt186.2.2.1 bt186.2.2.2.1 bt186.2.2.2.2) else (l40_lives.j0 k t183 true bt186.1 bt186.2.1 bt186.2.2.1 bt186.2.2.2.1 bt186.2.2.2.2)) else (l40_lives.j0 k t183 true bt186.1 bt186.2.1 bt186.2.2.1 bt186.2.2.2.1 bt186.2.2.2.2)) else (none)) else (l40_lives.j0 k t183 true bt186.1 bt186.2.1 bt186.2.2.1 bt186.2.2.2.1 bt186.2.2.2.2)) else (none)) else (l40_lives.j0 k t183 true bt186.1 bt186.2.1 bt186.2.2.1 bt186.2.2.2.1 bt186.2.2.2.2)) else (none)) else (l40_lives.j0 k t183 true bt186.1 bt186.2.1 bt186.2.2.1 bt186.2.2.2.1 bt186.2.2.2.2)) else (l40_lives.j0 k t183 true bt186.1 bt186.2.1 bt186.2.2.1 bt186.2.2.2.1 bt186.2.2.2.2)) else (none)) else (l40_lives.j0 k t183 true bt186.1 bt186.2.1 bt186.2.2.1 bt186.2.2.2.1 bt186.2.2.2.2)) else (none)) else (l40_lives.j0 k t183 true bt186.1 bt186.2.1 bt186.2.2.1 bt186.2.2.2.1 bt186.2.2.2.2)) else (none)) else (l40_lives.j0 k t183 true bt186.1 bt186.2.1 bt186.2.2.1 bt186.2.2.2.1 bt186.2.2.2.2)) else (none)) else (l40_lives.j0 k t183 true bt186.1 bt186.2.1 bt186.2.2.1 bt186.2.2.2.1 bt186.2.2.2.2)) else (none)) else (l40_lives.j0 k t183 true bt186.1 bt186.2.1 bt186.2.2.1 bt186.2.2.2.1 bt186.2.2.2.2)) else (none)) else (l40_lives.j0 k t183 true bt186.1 bt186.2.1 bt186.2.2.1 bt186.2.2.2.1 bt186.2.2.2.2))))))
theorem l40_lives.mono_l : ∀ k, (∀ y0 y1 y2 y3 y4 y5 y6, LeO (l40_lives.j0 k y0 y1 y2 y3 y4 y5 y6) (l40_lives.j0 (k + 1) y0 y1 y2 y3 y4 y5 y6)) ∧ (∀ y0 y1 y2 y3 y4 y5 y6, LeO (l40_lives.j1 k y0 y1 y2 y3 y4 y5 y6) (l40_lives.j1 (k + 1) y0 y1 y2 y3 y4 y5 y6))
 | 0 => ⟨fun _ _ _ _ _ _ _ r h => by simp [l40_lives.j0] at h, fun _ _ _ _ _ _ _ r h => by simp [l40_lives.j1] at h⟩
 | k + 1 => by
  obtain ⟨ih0, ih1⟩ := l40_lives.mono_l k
  refine ⟨?_, ?_⟩
  ·intro y0 y1 y2 y3 y4 y5 y6
   unfold l40_lives.j0
   repeat' first
   | (with_reducible first | exact ih0 _ _ _ _ _ _ _ | exact ih1 _ _ _ _ _ _ _ | exact binding_CheckTerms.mono _ _ _ _ _ _ _ _ _ | exact binding_Eval.mono _ _ _ _ _ _ _ _ _ _ | exact binding_Holds.mono _ _ _ _ _ _ _ _ | exact binding_Text.mono _ _ _ _ _ _ _ _ | exact LeO.refl _ | exact LeO.none _ | refine LeO.ite ?_ ?_ | refine LeO.bind ?_ (fun _ => ?_))
   | exact LeO.none _
   | refine LeO.ite ?_ ?_
   | refine LeO.bind ?_ (fun _ => ?_)
  ·intro y0 y1 y2 y3 y4 y5 y6
   unfold l40_lives.j1
   repeat' first
   | (with_reducible first | exact ih0 _ _ _ _ _ _ _ | exact ih1 _ _ _ _ _ _ _ | exact binding_CheckTerms.mono _ _ _ _ _ _ _ _ _ | exact binding_Eval.mono _ _ _ _ _ _ _ _ _ _ | exact binding_Holds.mono _ _ _ _ _ _ _ _ | exact binding_Text.mono _ _ _ _ _ _ _ _ | exact LeO.refl _ | exact LeO.none _ | refine LeO.ite ?_ ?_ | refine LeO.bind ?_ (fun _ => ?_))
   | exact LeO.none _
   | refine LeO.ite ?_ ?_
   | refine LeO.bind ?_ (fun _ => ?_)
theorem l40_lives.mono : ∀ k, LeO (l40_lives.f k ) (l40_lives.f (k + 1) ) := by
 intro  k
 obtain ⟨ih0, ih1⟩ := l40_lives.mono_l k
 unfold l40_lives.f
 repeat' first
   | (with_reducible first | exact ih0 _ _ _ _ _ _ _ | exact ih1 _ _ _ _ _ _ _ | exact binding_CheckTerms.mono _ _ _ _ _ _ _ _ _ | exact binding_Eval.mono _ _ _ _ _ _ _ _ _ _ | exact binding_Holds.mono _ _ _ _ _ _ _ _ | exact binding_Text.mono _ _ _ _ _ _ _ _ | exact LeO.refl _ | exact LeO.none _ | refine LeO.ite ?_ ?_ | refine LeO.bind ?_ (fun _ => ?_))
   | exact LeO.none _
   | refine LeO.ite ?_ ?_
   | refine LeO.bind ?_ (fun _ => ?_)
theorem l40_lives.j0_no : ∀ k y0 y2 y3 y4 y5 y6, ¬ (l40_lives.j0 k y0 true y2 y3 y4 y5 y6 = some true) := by
 intro k; cases k <;> simp [l40_lives.j0]
theorem l40_lives.j1_no : ∀ k y0 y2 y3 y4 y5 y6, ¬ (l40_lives.j1 k y0 true y2 y3 y4 y5 y6 = some true) := by
 intro k; cases k <;> simp [l40_lives.j1]
set_option maxHeartbeats 8000000 in
set_option maxRecDepth 100000 in
theorem l40_lives.calls (k : Nat)  (r : Bool) (w : World) (h : l40_lives.f k  = some r) (hrT_ : Aside0 (r = true)) :
  Calls Try.prog 10 #[] w fun e w' => e = .returned (.bool r) ∧ Below w.heap.size w w' := by
 have hu27 := Try.underlying27; have hu9 := Try.underlying9; have hu23 := Try.underlying23; have hu24 := Try.underlying24; have hu25 := Try.underlying25; have hu54 := Try.underlying54; have hu3 := Try.underlying3; have HB := aM (Below.refl w.heap.size w)
 have H : ((l40_three.f).bind fun t183 => ((l40_pair.f).bind fun bt186 => ((binding_All.f t183 bt186.1 bt186.2.1 bt186.2.2.1 bt186.2.2.2.1 bt186.2.2.2.2).bind fun t200 => ((binding_Eval.f k t183 bt186.1 bt186.2.1 bt186.2.2.1 bt186.2.2.2.1 bt186.2.2.2.2 0 (([(⟨2, 3, 1⟩ : S54), (⟨1, 5, 0⟩ : S54)] : List (S54))) (([0, 2] : List Int))).bind fun bt209 => ((binding_Eval.f k t183 bt186.1 bt186.2.1 bt186.2.2.1 bt186.2.2.2.1 bt186.2.2.2.2 0 ([] : List (S54)) (([0, 3] : List Int))).bind fun bt216 => (if (t200.length : Int) = 3 then (if 0 < (t200.length : Int) then (if ((rd_L15 t200 0).length : Int) = 2 then (if 0 < ((rd_L15 t200 0).length : Int) then (if (rd (rd_L15 t200 0) 0) = 0 then (if 1 < ((rd_L15 t200 0).length : Int) then (if (rd (rd_L15 t200 0) 1) = 1 then (if 2 < (t200.length : Int) then (if ((rd_L15 t200 2).length : Int) = 2 then (if 0 < ((rd_L15 t200 2).length : Int) then (if (rd (rd_L15 t200 2) 0) = 1 then (if 1 < ((rd_L15 t200 2).length : Int) then (if (rd (rd_L15 t200 2) 1) = 2 then (if (bt209.1.length : Int) = 3 then (if 0 < (bt209.1.length : Int) then (if (rd bt209.1 0) = 3 then (if 1 < (bt209.1.length : Int) then (if (rd bt209.1 1) = 1 then (if 2 < (bt209.1.length : Int) then (if (rd bt209.1 2) = 1 then (if bt209.2 = 0 then (l40_lives.j0 k t183 (bt216.2 != 15) bt186.1 bt186.2.1 bt186.2.2.1 bt186.2.2.2.1 bt186.2.2.2.2) else (l40_lives.j0 k t183 true bt186.1 bt186.2.1 bt186.2.2.1 bt186.2.2.2.1 bt186.2.2.2.2)) else (l40_lives.j0 k t183 true bt186.1 bt186.2.1 bt186.2.2.1 bt186.2.2.2.1 bt186.2.2.2.2)) else (none)) else (l40_lives.j0 k t183 true bt186.1 bt186.2.1 bt186.2.2.1 bt186.2.2.2.1 bt186.2.2.2.2)) else (none)) else (l40_lives.j0 k t183 true bt186.1 bt186.2.1 bt186.2.2.1 bt186.2.2.2.1 bt186.2.2.2.2)) else (none)) else (l40_lives.j0 k t183 true bt186.1 bt186.2.1 bt186.2.2.1 bt186.2.2.2.1 bt186.2.2.2.2)) else (l40_lives.j0 k t183 true bt186.1 bt186.2.1 bt186.2.2.1 bt186.2.2.2.1 bt186.2.2.2.2)) else (none)) else (l40_lives.j0 k t183 true bt186.1 bt186.2.1 bt186.2.2.1 bt186.2.2.2.1 bt186.2.2.2.2)) else (none)) else (l40_lives.j0 k t183 true bt186.1 bt186.2.1 bt186.2.2.1 bt186.2.2.2.1 bt186.2.2.2.2)) else (none)) else (l40_lives.j0 k t183 true bt186.1 bt186.2.1 bt186.2.2.1 bt186.2.2.2.1 bt186.2.2.2.2)) else (none)) else (l40_lives.j0 k t183 true bt186.1 bt186.2.1 bt186.2.2.1 bt186.2.2.2.1 bt186.2.2.2.2)) else (none)) else (l40_lives.j0 k t183 true bt186.1 bt186.2.1 bt186.2.2.1 bt186.2.2.2.1 bt186.2.2.2.2)) else (none)) else (l40_lives.j0 k t183 true bt186.1 bt186.2.1 bt186.2.2.1 bt186.2.2.2.1 bt186.2.2.2.2))))))) = some r := h
 clear h; replace H := Option.bind_eq_some_iff.mp H; obtain ⟨t183, A10, H⟩ := H
 replace H : ((l40_pair.f).bind fun bt186 => ((binding_All.f t183 bt186.1 bt186.2.1 bt186.2.2.1 bt186.2.2.2.1 bt186.2.2.2.2).bind fun t200 => ((binding_Eval.f k t183 bt186.1 bt186.2.1 bt186.2.2.1 bt186.2.2.2.1 bt186.2.2.2.2 0 (([(⟨2, 3, 1⟩ : S54), (⟨1, 5, 0⟩ : S54)] : List (S54))) (([0, 2] : List Int))).bind fun bt209 => ((binding_Eval.f k t183 bt186.1 bt186.2.1 bt186.2.2.1 bt186.2.2.2.1 bt186.2.2.2.2 0 ([] : List (S54)) (([0, 3] : List Int))).bind fun bt216 => (if (t200.length : Int) = 3 then (if 0 < (t200.length : Int) then (if ((rd_L15 t200 0).length : Int) = 2 then (if 0 < ((rd_L15 t200 0).length : Int) then (if (rd (rd_L15 t200 0) 0) = 0 then (if 1 < ((rd_L15 t200 0).length : Int) then (if (rd (rd_L15 t200 0) 1) = 1 then (if 2 < (t200.length : Int) then (if ((rd_L15 t200 2).length : Int) = 2 then (if 0 < ((rd_L15 t200 2).length : Int) then (if (rd (rd_L15 t200 2) 0) = 1 then (if 1 < ((rd_L15 t200 2).length : Int) then (if (rd (rd_L15 t200 2) 1) = 2 then (if (bt209.1.length : Int) = 3 then (if 0 < (bt209.1.length : Int) then (if (rd bt209.1 0) = 3 then (if 1 < (bt209.1.length : Int) then (if (rd bt209.1 1) = 1 then (if 2 < (bt209.1.length : Int) then (if (rd bt209.1 2) = 1 then (if bt209.2 = 0 then (l40_lives.j0 k t183 (bt216.2 != 15) bt186.1 bt186.2.1 bt186.2.2.1 bt186.2.2.2.1 bt186.2.2.2.2) else (l40_lives.j0 k t183 true bt186.1 bt186.2.1 bt186.2.2.1 bt186.2.2.2.1 bt186.2.2.2.2)) else (l40_lives.j0 k t183 true bt186.1 bt186.2.1 bt186.2.2.1 bt186.2.2.2.1 bt186.2.2.2.2)) else (none)) else (l40_lives.j0 k t183 true bt186.1 bt186.2.1 bt186.2.2.1 bt186.2.2.2.1 bt186.2.2.2.2)) else (none)) else (l40_lives.j0 k t183 true bt186.1 bt186.2.1 bt186.2.2.1 bt186.2.2.2.1 bt186.2.2.2.2)) else (none)) else (l40_lives.j0 k t183 true bt186.1 bt186.2.1 bt186.2.2.1 bt186.2.2.2.1 bt186.2.2.2.2)) else (l40_lives.j0 k t183 true bt186.1 bt186.2.1 bt186.2.2.1 bt186.2.2.2.1 bt186.2.2.2.2)) else (none)) else (l40_lives.j0 k t183 true bt186.1 bt186.2.1 bt186.2.2.1 bt186.2.2.2.1 bt186.2.2.2.2)) else (none)) else (l40_lives.j0 k t183 true bt186.1 bt186.2.1 bt186.2.2.1 bt186.2.2.2.1 bt186.2.2.2.2)) else (none)) else (l40_lives.j0 k t183 true bt186.1 bt186.2.1 bt186.2.2.1 bt186.2.2.2.1 bt186.2.2.2.2)) else (none)) else (l40_lives.j0 k t183 true bt186.1 bt186.2.1 bt186.2.2.1 bt186.2.2.2.1 bt186.2.2.2.2)) else (none)) else (l40_lives.j0 k t183 true bt186.1 bt186.2.1 bt186.2.2.1 bt186.2.2.2.1 bt186.2.2.2.2)) else (none)) else (l40_lives.j0 k t183 true bt186.1 bt186.2.1 bt186.2.2.1 bt186.2.2.2.1 bt186.2.2.2.2)))))) = some r := H
 have A1 := aM A10; clear A10; replace H := Option.bind_eq_some_iff.mp H
 obtain ⟨⟨t186, t187, t190, t193, t196⟩, A20, H⟩ := H
 replace H : ((binding_All.f t183 t186 t187 t190 t193 t196).bind fun t200 => ((binding_Eval.f k t183 t186 t187 t190 t193 t196 0 (([(⟨2, 3, 1⟩ : S54), (⟨1, 5, 0⟩ : S54)] : List (S54))) (([0, 2] : List Int))).bind fun bt209 => ((binding_Eval.f k t183 t186 t187 t190 t193 t196 0 ([] : List (S54)) (([0, 3] : List Int))).bind fun bt216 => (if (t200.length : Int) = 3 then (if 0 < (t200.length : Int) then (if ((rd_L15 t200 0).length : Int) = 2 then (if 0 < ((rd_L15 t200 0).length : Int) then (if (rd (rd_L15 t200 0) 0) = 0 then (if 1 < ((rd_L15 t200 0).length : Int) then (if (rd (rd_L15 t200 0) 1) = 1 then (if 2 < (t200.length : Int) then (if ((rd_L15 t200 2).length : Int) = 2 then (if 0 < ((rd_L15 t200 2).length : Int) then (if (rd (rd_L15 t200 2) 0) = 1 then (if 1 < ((rd_L15 t200 2).length : Int) then (if (rd (rd_L15 t200 2) 1) = 2 then (if (bt209.1.length : Int) = 3 then (if 0 < (bt209.1.length : Int) then (if (rd bt209.1 0) = 3 then (if 1 < (bt209.1.length : Int) then (if (rd bt209.1 1) = 1 then (if 2 < (bt209.1.length : Int) then (if (rd bt209.1 2) = 1 then (if bt209.2 = 0 then (l40_lives.j0 k t183 (bt216.2 != 15) t186 t187 t190 t193 t196) else (l40_lives.j0 k t183 true t186 t187 t190 t193 t196)) else (l40_lives.j0 k t183 true t186 t187 t190 t193 t196)) else (none)) else (l40_lives.j0 k t183 true t186 t187 t190 t193 t196)) else (none)) else (l40_lives.j0 k t183 true t186 t187 t190 t193 t196)) else (none)) else (l40_lives.j0 k t183 true t186 t187 t190 t193 t196)) else (l40_lives.j0 k t183 true t186 t187 t190 t193 t196)) else (none)) else (l40_lives.j0 k t183 true t186 t187 t190 t193 t196)) else (none)) else (l40_lives.j0 k t183 true t186 t187 t190 t193 t196)) else (none)) else (l40_lives.j0 k t183 true t186 t187 t190 t193 t196)) else (none)) else (l40_lives.j0 k t183 true t186 t187 t190 t193 t196)) else (none)) else (l40_lives.j0 k t183 true t186 t187 t190 t193 t196)) else (none)) else (l40_lives.j0 k t183 true t186 t187 t190 t193 t196))))) = some r := H
 have A2 := aM A20; clear A20; replace H := Option.bind_eq_some_iff.mp H; obtain ⟨t200, A30, H⟩ := H
 replace H : ((binding_Eval.f k t183 t186 t187 t190 t193 t196 0 (([(⟨2, 3, 1⟩ : S54), (⟨1, 5, 0⟩ : S54)] : List (S54))) (([0, 2] : List Int))).bind fun bt209 => ((binding_Eval.f k t183 t186 t187 t190 t193 t196 0 ([] : List (S54)) (([0, 3] : List Int))).bind fun bt216 => (if (t200.length : Int) = 3 then (if 0 < (t200.length : Int) then (if ((rd_L15 t200 0).length : Int) = 2 then (if 0 < ((rd_L15 t200 0).length : Int) then (if (rd (rd_L15 t200 0) 0) = 0 then (if 1 < ((rd_L15 t200 0).length : Int) then (if (rd (rd_L15 t200 0) 1) = 1 then (if 2 < (t200.length : Int) then (if ((rd_L15 t200 2).length : Int) = 2 then (if 0 < ((rd_L15 t200 2).length : Int) then (if (rd (rd_L15 t200 2) 0) = 1 then (if 1 < ((rd_L15 t200 2).length : Int) then (if (rd (rd_L15 t200 2) 1) = 2 then (if (bt209.1.length : Int) = 3 then (if 0 < (bt209.1.length : Int) then (if (rd bt209.1 0) = 3 then (if 1 < (bt209.1.length : Int) then (if (rd bt209.1 1) = 1 then (if 2 < (bt209.1.length : Int) then (if (rd bt209.1 2) = 1 then (if bt209.2 = 0 then (l40_lives.j0 k t183 (bt216.2 != 15) t186 t187 t190 t193 t196) else (l40_lives.j0 k t183 true t186 t187 t190 t193 t196)) else (l40_lives.j0 k t183 true t186 t187 t190 t193 t196)) else (none)) else (l40_lives.j0 k t183 true t186 t187 t190 t193 t196)) else (none)) else (l40_lives.j0 k t183 true t186 t187 t190 t193 t196)) else (none)) else (l40_lives.j0 k t183 true t186 t187 t190 t193 t196)) else (l40_lives.j0 k t183 true t186 t187 t190 t193 t196)) else (none)) else (l40_lives.j0 k t183 true t186 t187 t190 t193 t196)) else (none)) else (l40_lives.j0 k t183 true t186 t187 t190 t193 t196)) else (none)) else (l40_lives.j0 k t183 true t186 t187 t190 t193 t196)) else (none)) else (l40_lives.j0 k t183 true t186 t187 t190 t193 t196)) else (none)) else (l40_lives.j0 k t183 true t186 t187 t190 t193 t196)) else (none)) else (l40_lives.j0 k t183 true t186 t187 t190 t193 t196)))) = some r := H
 have A3 := aM A30; clear A30
 obtain ⟨y203, hy203⟩ : ∃ y_ : List (S54), y_ = (([(⟨2, 3, 1⟩ : S54), (⟨1, 5, 0⟩ : S54)] : List (S54))) := ⟨_, rfl⟩
 replace H : ((binding_Eval.f k t183 t186 t187 t190 t193 t196 0 y203 (([0, 2] : List Int))).bind fun bt209 => ((binding_Eval.f k t183 t186 t187 t190 t193 t196 0 ([] : List (S54)) (([0, 3] : List Int))).bind fun bt216 => (if (t200.length : Int) = 3 then (if 0 < (t200.length : Int) then (if ((rd_L15 t200 0).length : Int) = 2 then (if 0 < ((rd_L15 t200 0).length : Int) then (if (rd (rd_L15 t200 0) 0) = 0 then (if 1 < ((rd_L15 t200 0).length : Int) then (if (rd (rd_L15 t200 0) 1) = 1 then (if 2 < (t200.length : Int) then (if ((rd_L15 t200 2).length : Int) = 2 then (if 0 < ((rd_L15 t200 2).length : Int) then (if (rd (rd_L15 t200 2) 0) = 1 then (if 1 < ((rd_L15 t200 2).length : Int) then (if (rd (rd_L15 t200 2) 1) = 2 then (if (bt209.1.length : Int) = 3 then (if 0 < (bt209.1.length : Int) then (if (rd bt209.1 0) = 3 then (if 1 < (bt209.1.length : Int) then (if (rd bt209.1 1) = 1 then (if 2 < (bt209.1.length : Int) then (if (rd bt209.1 2) = 1 then (if bt209.2 = 0 then (l40_lives.j0 k t183 (bt216.2 != 15) t186 t187 t190 t193 t196) else (l40_lives.j0 k t183 true t186 t187 t190 t193 t196)) else (l40_lives.j0 k t183 true t186 t187 t190 t193 t196)) else (none)) else (l40_lives.j0 k t183 true t186 t187 t190 t193 t196)) else (none)) else (l40_lives.j0 k t183 true t186 t187 t190 t193 t196)) else (none)) else (l40_lives.j0 k t183 true t186 t187 t190 t193 t196)) else (l40_lives.j0 k t183 true t186 t187 t190 t193 t196)) else (none)) else (l40_lives.j0 k t183 true t186 t187 t190 t193 t196)) else (none)) else (l40_lives.j0 k t183 true t186 t187 t190 t193 t196)) else (none)) else (l40_lives.j0 k t183 true t186 t187 t190 t193 t196)) else (none)) else (l40_lives.j0 k t183 true t186 t187 t190 t193 t196)) else (none)) else (l40_lives.j0 k t183 true t186 t187 t190 t193 t196)) else (none)) else (l40_lives.j0 k t183 true t186 t187 t190 t193 t196)))) = some r := by first | (rw [hy203]; with_reducible exact H) | (have H2_ := (Option.bind_some _ _).symm.trans H; rw [hy203]; with_reducible exact H2_) | (have H2_ := (Option.bind_some _ _).symm.trans H; with_reducible exact H2_) | with_reducible exact H | (rw [hy203]; exact H) | exact H
 have Ny203 := aM hy203; clear hy203
 obtain ⟨y206, hy206⟩ : ∃ y_ : List Int, y_ = (([0, 2] : List Int)) := ⟨_, rfl⟩
 replace H : ((binding_Eval.f k t183 t186 t187 t190 t193 t196 0 y203 y206).bind fun bt209 => ((binding_Eval.f k t183 t186 t187 t190 t193 t196 0 ([] : List (S54)) (([0, 3] : List Int))).bind fun bt216 => (if (t200.length : Int) = 3 then (if 0 < (t200.length : Int) then (if ((rd_L15 t200 0).length : Int) = 2 then (if 0 < ((rd_L15 t200 0).length : Int) then (if (rd (rd_L15 t200 0) 0) = 0 then (if 1 < ((rd_L15 t200 0).length : Int) then (if (rd (rd_L15 t200 0) 1) = 1 then (if 2 < (t200.length : Int) then (if ((rd_L15 t200 2).length : Int) = 2 then (if 0 < ((rd_L15 t200 2).length : Int) then (if (rd (rd_L15 t200 2) 0) = 1 then (if 1 < ((rd_L15 t200 2).length : Int) then (if (rd (rd_L15 t200 2) 1) = 2 then (if (bt209.1.length : Int) = 3 then (if 0 < (bt209.1.length : Int) then (if (rd bt209.1 0) = 3 then (if 1 < (bt209.1.length : Int) then (if (rd bt209.1 1) = 1 then (if 2 < (bt209.1.length : Int) then (if (rd bt209.1 2) = 1 then (if bt209.2 = 0 then (l40_lives.j0 k t183 (bt216.2 != 15) t186 t187 t190 t193 t196) else (l40_lives.j0 k t183 true t186 t187 t190 t193 t196)) else (l40_lives.j0 k t183 true t186 t187 t190 t193 t196)) else (none)) else (l40_lives.j0 k t183 true t186 t187 t190 t193 t196)) else (none)) else (l40_lives.j0 k t183 true t186 t187 t190 t193 t196)) else (none)) else (l40_lives.j0 k t183 true t186 t187 t190 t193 t196)) else (l40_lives.j0 k t183 true t186 t187 t190 t193 t196)) else (none)) else (l40_lives.j0 k t183 true t186 t187 t190 t193 t196)) else (none)) else (l40_lives.j0 k t183 true t186 t187 t190 t193 t196)) else (none)) else (l40_lives.j0 k t183 true t186 t187 t190 t193 t196)) else (none)) else (l40_lives.j0 k t183 true t186 t187 t190 t193 t196)) else (none)) else (l40_lives.j0 k t183 true t186 t187 t190 t193 t196)) else (none)) else (l40_lives.j0 k t183 true t186 t187 t190 t193 t196)))) = some r := by first | (rw [hy206]; with_reducible exact H) | (have H2_ := (Option.bind_some _ _).symm.trans H; rw [hy206]; with_reducible exact H2_) | (have H2_ := (Option.bind_some _ _).symm.trans H; with_reducible exact H2_) | with_reducible exact H | (rw [hy206]; exact H) | exact H
 have Ny206 := aM hy206; clear hy206; replace H := Option.bind_eq_some_iff.mp H
 obtain ⟨⟨t209, t212⟩, A40, H⟩ := H
 replace H : ((binding_Eval.f k t183 t186 t187 t190 t193 t196 0 ([] : List (S54)) (([0, 3] : List Int))).bind fun bt216 => (if (t200.length : Int) = 3 then (if 0 < (t200.length : Int) then (if ((rd_L15 t200 0).length : Int) = 2 then (if 0 < ((rd_L15 t200 0).length : Int) then (if (rd (rd_L15 t200 0) 0) = 0 then (if 1 < ((rd_L15 t200 0).length : Int) then (if (rd (rd_L15 t200 0) 1) = 1 then (if 2 < (t200.length : Int) then (if ((rd_L15 t200 2).length : Int) = 2 then (if 0 < ((rd_L15 t200 2).length : Int) then (if (rd (rd_L15 t200 2) 0) = 1 then (if 1 < ((rd_L15 t200 2).length : Int) then (if (rd (rd_L15 t200 2) 1) = 2 then (if (t209.length : Int) = 3 then (if 0 < (t209.length : Int) then (if (rd t209 0) = 3 then (if 1 < (t209.length : Int) then (if (rd t209 1) = 1 then (if 2 < (t209.length : Int) then (if (rd t209 2) = 1 then (if t212 = 0 then (l40_lives.j0 k t183 (bt216.2 != 15) t186 t187 t190 t193 t196) else (l40_lives.j0 k t183 true t186 t187 t190 t193 t196)) else (l40_lives.j0 k t183 true t186 t187 t190 t193 t196)) else (none)) else (l40_lives.j0 k t183 true t186 t187 t190 t193 t196)) else (none)) else (l40_lives.j0 k t183 true t186 t187 t190 t193 t196)) else (none)) else (l40_lives.j0 k t183 true t186 t187 t190 t193 t196)) else (l40_lives.j0 k t183 true t186 t187 t190 t193 t196)) else (none)) else (l40_lives.j0 k t183 true t186 t187 t190 t193 t196)) else (none)) else (l40_lives.j0 k t183 true t186 t187 t190 t193 t196)) else (none)) else (l40_lives.j0 k t183 true t186 t187 t190 t193 t196)) else (none)) else (l40_lives.j0 k t183 true t186 t187 t190 t193 t196)) else (none)) else (l40_lives.j0 k t183 true t186 t187 t190 t193 t196)) else (none)) else (l40_lives.j0 k t183 true t186 t187 t190 t193 t196))) = some r := H
 have A4 := aM A40; clear A40
 obtain ⟨y213, hy213⟩ : ∃ y_ : List Int, y_ = (([0, 3] : List Int)) := ⟨_, rfl⟩
 replace H : ((binding_Eval.f k t183 t186 t187 t190 t193 t196 0 ([] : List (S54)) y213).bind fun bt216 => (if (t200.length : Int) = 3 then (if 0 < (t200.length : Int) then (if ((rd_L15 t200 0).length : Int) = 2 then (if 0 < ((rd_L15 t200 0).length : Int) then (if (rd (rd_L15 t200 0) 0) = 0 then (if 1 < ((rd_L15 t200 0).length : Int) then (if (rd (rd_L15 t200 0) 1) = 1 then (if 2 < (t200.length : Int) then (if ((rd_L15 t200 2).length : Int) = 2 then (if 0 < ((rd_L15 t200 2).length : Int) then (if (rd (rd_L15 t200 2) 0) = 1 then (if 1 < ((rd_L15 t200 2).length : Int) then (if (rd (rd_L15 t200 2) 1) = 2 then (if (t209.length : Int) = 3 then (if 0 < (t209.length : Int) then (if (rd t209 0) = 3 then (if 1 < (t209.length : Int) then (if (rd t209 1) = 1 then (if 2 < (t209.length : Int) then (if (rd t209 2) = 1 then (if t212 = 0 then (l40_lives.j0 k t183 (bt216.2 != 15) t186 t187 t190 t193 t196) else (l40_lives.j0 k t183 true t186 t187 t190 t193 t196)) else (l40_lives.j0 k t183 true t186 t187 t190 t193 t196)) else (none)) else (l40_lives.j0 k t183 true t186 t187 t190 t193 t196)) else (none)) else (l40_lives.j0 k t183 true t186 t187 t190 t193 t196)) else (none)) else (l40_lives.j0 k t183 true t186 t187 t190 t193 t196)) else (l40_lives.j0 k t183 true t186 t187 t190 t193 t196)) else (none)) else (l40_lives.j0 k t183 true t186 t187 t190 t193 t196)) else (none)) else (l40_lives.j0 k t183 true t186 t187 t190 t193 t196)) else (none)) else (l40_lives.j0 k t183 true t186 t187 t190 t193 t196)) else (none)) else (l40_lives.j0 k t183 true t186 t187 t190 t193 t196)) else (none)) else (l40_lives.j0 k t183 true t186 t187 t190 t193 t196)) else (none)) else (l40_lives.j0 k t183 true t186 t187 t190 t193 t196))) = some r := by first | (rw [hy213]; with_reducible exact H) | (have H2_ := (Option.bind_some _ _).symm.trans H; rw [hy213]; with_reducible exact H2_) | (have H2_ := (Option.bind_some _ _).symm.trans H; with_reducible exact H2_) | with_reducible exact H | (rw [hy213]; exact H) | exact H
 have Ny213 := aM hy213; clear hy213; replace H := Option.bind_eq_some_iff.mp H
 obtain ⟨⟨t216, t219⟩, A50, H⟩ := H
 replace H : (if (t200.length : Int) = 3 then (if 0 < (t200.length : Int) then (if ((rd_L15 t200 0).length : Int) = 2 then (if 0 < ((rd_L15 t200 0).length : Int) then (if (rd (rd_L15 t200 0) 0) = 0 then (if 1 < ((rd_L15 t200 0).length : Int) then (if (rd (rd_L15 t200 0) 1) = 1 then (if 2 < (t200.length : Int) then (if ((rd_L15 t200 2).length : Int) = 2 then (if 0 < ((rd_L15 t200 2).length : Int) then (if (rd (rd_L15 t200 2) 0) = 1 then (if 1 < ((rd_L15 t200 2).length : Int) then (if (rd (rd_L15 t200 2) 1) = 2 then (if (t209.length : Int) = 3 then (if 0 < (t209.length : Int) then (if (rd t209 0) = 3 then (if 1 < (t209.length : Int) then (if (rd t209 1) = 1 then (if 2 < (t209.length : Int) then (if (rd t209 2) = 1 then (if t212 = 0 then (l40_lives.j0 k t183 (t219 != 15) t186 t187 t190 t193 t196) else (l40_lives.j0 k t183 true t186 t187 t190 t193 t196)) else (l40_lives.j0 k t183 true t186 t187 t190 t193 t196)) else (none)) else (l40_lives.j0 k t183 true t186 t187 t190 t193 t196)) else (none)) else (l40_lives.j0 k t183 true t186 t187 t190 t193 t196)) else (none)) else (l40_lives.j0 k t183 true t186 t187 t190 t193 t196)) else (l40_lives.j0 k t183 true t186 t187 t190 t193 t196)) else (none)) else (l40_lives.j0 k t183 true t186 t187 t190 t193 t196)) else (none)) else (l40_lives.j0 k t183 true t186 t187 t190 t193 t196)) else (none)) else (l40_lives.j0 k t183 true t186 t187 t190 t193 t196)) else (none)) else (l40_lives.j0 k t183 true t186 t187 t190 t193 t196)) else (none)) else (l40_lives.j0 k t183 true t186 t187 t190 t193 t196)) else (none)) else (l40_lives.j0 k t183 true t186 t187 t190 t193 t196)) = some r := H
 have A5 := aM A50; clear A50; have HC6 := aM H; clear H
 go_enter Try.func10, Try.ntmps10
 go_upto_region 5 with (first | ((with_reducible refine gate_callee (f := 27) rfl ?_); refine goesL_ (some 8) rfl rfl Try.func27 (by kernel_rfl) rfl #[] rfl mT ?_; (with_reducible refine (l40_three.calls  t183 _ A1.out).mono ?_); rintro e w7 ⟨v184, rfl, ho0, hb⟩; refine ⟨_, rfl, ?_⟩; have n0_ := aM (Kd.N_lower (Kd.N_mono (ok' := fun k_ => True) ho0 (fun k_ hk_ => trivial)) (below_size (bB HB.out))); have n1_ := aM (below_step (bB HB.out) hb); clear HB; have HO185 := n0_; have HB := n1_; clear n0_ n1_; (try clear hb); (try clear hb2); (try clear hk); (try clear hi); (try clear ho0)) | ((with_reducible refine gate_callee (f := 28) rfl ?_); refine goesL_ (some 9) rfl rfl Try.func28 (by kernel_rfl) rfl #[] rfl mT ?_; (with_reducible refine (l40_pair.calls  t186 t187 t190 t193 t196 _ A2.out).mono ?_); rintro e w8 ⟨v188, v191, v194, v197, rfl, ho0, ho1, ho2, ho3, hb⟩; refine ⟨_, rfl, ?_⟩; have n0_ := aM (Kd.N_mono (Kd.N_told (Kd.N_told (Kd.N_told (Kd.N_told (Kd.N_old (oN HO185.out) hb) (Kd.R_base ho0)) (Kd.R_base ho1)) (by first | exact Kd.N_base ho2 | exact Kd.S_base ho2)) (by first | exact Kd.N_base ho3 | exact Kd.S_base ho3)) (fun _ h_ => h_.1)); have n1_ := aM (Kd.R_lower ho0 (below_size (bB HB.out))); have n2_ := aM (Kd.R_lower ho1 (below_size (bB HB.out))); have n3_ := aM (Kd.N_lower (Kd.N_mono (ok' := fun k_ => some k_ ≠ (v188 : Value).ownBlock ∧ some k_ ≠ (v191 : Value).ownBlock ∧ some k_ ≠ (v197 : Value).ownBlock ∧ some k_ ≠ (v184 : Value).ownBlock) (Kd.S_N (Kd.S_bound (Kd.S_apart' (Kd.S_apart' ho2 (Kd.R_typed ho0) (by decide)) (Kd.R_typed ho1) (by decide)))) (fun k_ hk_ => ⟨hk_.1.1.2, hk_.1.2, hk_.1.1.1, (Kd.fresh' (Kd.N_lt (oN HO185.out)) k_ hk_.2.1)⟩)) (below_size (bB HB.out))); have n4_ := aM (Kd.N_lower (Kd.N_mono (ok' := fun k_ => some k_ ≠ (v188 : Value).ownBlock ∧ some k_ ≠ (v191 : Value).ownBlock ∧ some k_ ≠ (v194 : Value).ownBlock ∧ some k_ ≠ (v184 : Value).ownBlock) (Kd.S_N (Kd.S_bound (Kd.S_apart' (Kd.S_apart' ho3 (Kd.R_typed ho0) (by decide)) (Kd.R_typed ho1) (by decide)))) (fun k_ hk_ => ⟨hk_.1.1.2, hk_.1.2, hk_.1.1.1, (Kd.fresh' (Kd.N_lt (oN HO185.out)) k_ hk_.2.1)⟩)) (below_size (bB HB.out))); have n5_ := aM (below_step (bB HB.out) hb); clear HO185; clear HB; have HO185 := n0_; have HO189 := n1_; have HO192 := n2_; have HO195 := n3_; have HO198 := n4_; have HB := n5_; clear n0_ n1_ n2_ n3_ n4_ n5_; (try clear hb); (try clear hb2); (try clear hk); (try clear hi); (try clear ho0); (try clear ho1); (try clear ho2); (try clear ho3)) | ((with_reducible refine gate_dst (N := 2) rfl ?_); (try (refine gate_guard (by rfl) ?_; dsimp only)); refine box_event ?hg (N := 2) ?hd (cs := #[.string (⟨#[]⟩ : ByteArray), .slice none 0 0, .slice none 0 0, .slice none 0 0, .slice none 0 0]) (t := 27) ?hr ?_; (case hd => rfl); (case hg => rfl); (case hr => first | (go_simp; done) | (go_simp; rfl)); intro gb199 hg w9 hbox hb; have n0_ := aM (Kd.N_below (Kd.N_elderB (oN HO185.out) gb199 (Nat.le_of_eq hg.symm)) hb); have n1_ := aM (Kd.R_below (oR HO189.out) hb); have n2_ := aM (Kd.R_below (oR HO192.out) hb); have n3_ := aM (Kd.N_below (Kd.N_elderB (oN HO195.out) gb199 (Nat.le_of_eq hg.symm)) hb); have n4_ := aM (Kd.N_below (Kd.N_elderB (oN HO198.out) gb199 (Nat.le_of_eq hg.symm)) hb); have n5_ := aM (below_step (bB HB.out) hb); have n6_ := aM (hbox); have n7_ := aM ((by rw [hg]; exact (below_size (bB HB.out)) : w.heap.size ≤ gb199)); have n8_ := aM ((by rw [hg]; exact (below_size (bB HB.out)) : w.heap.size ≤ gb199)); clear HO185; clear HO189; clear HO192; clear HO195; clear HO198; clear HB; have HO185 := n0_; have HO189 := n1_; have HO192 := n2_; have HO195 := n3_; have HO198 := n4_; have HB := n5_; have BK199 := n6_; have GW199 := n7_; have GE199 := n8_; clear n0_ n1_ n2_ n3_ n4_ n5_ n6_ n7_ n8_; clear hb hbox hg; have hcz10_0 : w9.cell? ⟨gb199, 0, none⟩ = some (.string (⟨#[]⟩ : ByteArray)) := (blk_cell BK199.out 0).trans rfl; have hcz10_1 : w9.cell? ⟨gb199, 1, none⟩ = some (.slice none 0 0) := (blk_cell BK199.out 1).trans rfl; have hcz10_2 : w9.cell? ⟨gb199, 2, none⟩ = some (.slice none 0 0) := (blk_cell BK199.out 2).trans rfl; have hcz10_3 : w9.cell? ⟨gb199, 3, none⟩ = some (.slice none 0 0) := (blk_cell BK199.out 3).trans rfl; have hcz10_4 : w9.cell? ⟨gb199, 4, none⟩ = some (.slice none 0 0) := (blk_cell BK199.out 4).trans rfl; have hfz10_0 := blk_frozen BK199.out 0; have hfz10_1 := blk_frozen BK199.out 1; have hfz10_2 := blk_frozen BK199.out 2; have hfz10_3 := blk_frozen BK199.out 3; have hfz10_4 := blk_frozen BK199.out 4; obtain ⟨Ao11, co11, eo11⟩ := Kd.R_slice HO189.out; subst eo11; obtain ⟨Ao12, co12, eo12⟩ := Kd.R_slice HO192.out; subst eo12; obtain ⟨Ao13, co13, eo13⟩ := Kd.N_slice HO195.out; subst eo13; obtain ⟨Ao14, co14, eo14⟩ := Kd.N_slice HO198.out; subst eo14; obtain ⟨Ao15, co15, eo15⟩ := Kd.N_slice HO185.out; subst eo15) | ((with_reducible refine gate_callee (f := 24) rfl ?_); refine goesL_ (some 12) rfl rfl Try.func24 (by kernel_rfl) rfl #[.slice Ao15 t183.length co15, .agg #[.string t186, .slice Ao11 t187.length co11, .slice Ao12 t190.length co12, .slice Ao13 t193.length co13, .slice Ao14 t196.length co14]] rfl mT ?_; (with_reducible refine (binding_All.calls _ _ t183 t186 _ _ t187 _ _ t190 _ _ t193 _ _ t196 t200 _ ?side1 ?side2 ?side3 ?side4 ?side5 ?side6 ?side7 ?side8 ?side9 ?side10 A3.out).mono ?_); (case side1 => refine (Kd.N_reads' (e := 51) (base := w.heap.size) (ok := fun k_ => (((((True ∧ some k_ ≠ (.slice Ao11 t187.length co11 : Value).ownBlock) ∧ some k_ ≠ (.slice Ao12 t190.length co12 : Value).ownBlock) ∧ some k_ ≠ (.slice Ao13 t193.length co13 : Value).ownBlock) ∧ some k_ ≠ (.slice Ao14 t196.length co14 : Value).ownBlock) ∧ k_ ≠ gb199)) (n := t183.length) (c := co15) ?_).2.2; exact (by refine oN ?_; exact (Kd.N_mono (Kd.N_far (p := ⟨gb199, 4, none⟩) (Kd.N_far (p := ⟨gb199, 3, none⟩) (Kd.N_far (p := ⟨gb199, 2, none⟩) (Kd.N_far (p := ⟨gb199, 1, none⟩) (Kd.N_far (p := ⟨gb199, 0, none⟩) (Kd.N_mono HO185.out (fun k_ hk => (⟨hk, hk.2⟩ : _ ∧ k_ ≠ gb199))) (fun _ hk => hk.2) (.string t186)) (fun _ hk => hk.2) (.slice Ao11 t187.length co11)) (fun _ hk => hk.2) (.slice Ao12 t190.length co12)) (fun _ hk => hk.2) (.slice Ao13 t193.length co13)) (fun _ hk => hk.2) (.slice Ao14 t196.length co14)) (fun _ h_ => h_.1)))); (case side2 => exact (Kd.N_reads' HO185.out).2.1); (case side3 => refine (Kd.R_reads' (e := 48) (base := w.heap.size) (ok := fun k_ => True) (n := t187.length) (c := co11) ?_).2.2; exact (by refine oR ?_; exact (tR HO189.out BK199.out))); (case side4 => exact (Kd.R_reads' HO189.out).2.1); (case side5 => refine (Kd.R_reads' (e := 62) (base := w.heap.size) (ok := fun k_ => True) (n := t190.length) (c := co12) ?_).2.2; exact (by refine oR ?_; exact (tR HO192.out BK199.out))); (case side6 => exact (Kd.R_reads' HO192.out).2.1); (case side7 => refine (Kd.N_reads' (e := 111) (base := w.heap.size) (ok := fun k_ => ((some k_ ≠ (.slice Ao11 t187.length co11 : Value).ownBlock ∧ (some k_ ≠ (.slice Ao12 t190.length co12 : Value).ownBlock ∧ (some k_ ≠ (.slice Ao14 t196.length co14 : Value).ownBlock ∧ some k_ ≠ (.slice Ao15 t183.length co15 : Value).ownBlock))) ∧ k_ ≠ gb199)) (n := t193.length) (c := co13) ?_).2.2; exact (by refine oN ?_; exact (Kd.N_mono (Kd.N_far (p := ⟨gb199, 4, none⟩) (Kd.N_far (p := ⟨gb199, 3, none⟩) (Kd.N_far (p := ⟨gb199, 2, none⟩) (Kd.N_far (p := ⟨gb199, 1, none⟩) (Kd.N_far (p := ⟨gb199, 0, none⟩) (Kd.N_mono HO195.out (fun k_ hk => (⟨hk, hk.2⟩ : _ ∧ k_ ≠ gb199))) (fun _ hk => hk.2) (.string t186)) (fun _ hk => hk.2) (.slice Ao11 t187.length co11)) (fun _ hk => hk.2) (.slice Ao12 t190.length co12)) (fun _ hk => hk.2) (.slice Ao13 t193.length co13)) (fun _ hk => hk.2) (.slice Ao14 t196.length co14)) (fun _ h_ => h_.1)))); (case side8 => exact (Kd.N_reads' HO195.out).2.1); (case side9 => refine (Kd.N_reads' (e := 111) (base := w.heap.size) (ok := fun k_ => ((some k_ ≠ (.slice Ao11 t187.length co11 : Value).ownBlock ∧ (some k_ ≠ (.slice Ao12 t190.length co12 : Value).ownBlock ∧ (some k_ ≠ (.slice Ao13 t193.length co13 : Value).ownBlock ∧ some k_ ≠ (.slice Ao15 t183.length co15 : Value).ownBlock))) ∧ k_ ≠ gb199)) (n := t196.length) (c := co14) ?_).2.2; exact (by refine oN ?_; exact (Kd.N_mono (Kd.N_far (p := ⟨gb199, 4, none⟩) (Kd.N_far (p := ⟨gb199, 3, none⟩) (Kd.N_far (p := ⟨gb199, 2, none⟩) (Kd.N_far (p := ⟨gb199, 1, none⟩) (Kd.N_far (p := ⟨gb199, 0, none⟩) (Kd.N_mono HO198.out (fun k_ hk => (⟨hk, hk.2⟩ : _ ∧ k_ ≠ gb199))) (fun _ hk => hk.2) (.string t186)) (fun _ hk => hk.2) (.slice Ao11 t187.length co11)) (fun _ hk => hk.2) (.slice Ao12 t190.length co12)) (fun _ hk => hk.2) (.slice Ao13 t193.length co13)) (fun _ hk => hk.2) (.slice Ao14 t196.length co14)) (fun _ h_ => h_.1)))); (case side10 => exact (Kd.N_reads' HO198.out).2.1); rintro e w16 ⟨v201, rfl, ho0, hb⟩; refine ⟨_, rfl, ?_⟩; have n0_ := aM (Kd.N_elder' (by refine oN ?_; exact (Kd.N_mono (Kd.N_far (p := ⟨gb199, 4, none⟩) (Kd.N_far (p := ⟨gb199, 3, none⟩) (Kd.N_far (p := ⟨gb199, 2, none⟩) (Kd.N_far (p := ⟨gb199, 1, none⟩) (Kd.N_far (p := ⟨gb199, 0, none⟩) (Kd.N_mono HO185.out (fun k_ hk => (⟨hk, hk.2⟩ : _ ∧ k_ ≠ gb199))) (fun _ hk => hk.2) (.string t186)) (fun _ hk => hk.2) (.slice Ao11 t187.length co11)) (fun _ hk => hk.2) (.slice Ao12 t190.length co12)) (fun _ hk => hk.2) (.slice Ao13 t193.length co13)) (fun _ hk => hk.2) (.slice Ao14 t196.length co14)) (fun _ h_ => h_.1))) (by first | exact Kd.N_base ho0 | exact Kd.S_base ho0) hb); have n1_ := aM (Kd.R_below (by refine oR ?_; exact (tR HO189.out BK199.out)) hb); have n2_ := aM (Kd.R_below (by refine oR ?_; exact (tR HO192.out BK199.out)) hb); have n3_ := aM (Kd.N_elder' (by refine oN ?_; exact (Kd.N_mono (Kd.N_far (p := ⟨gb199, 4, none⟩) (Kd.N_far (p := ⟨gb199, 3, none⟩) (Kd.N_far (p := ⟨gb199, 2, none⟩) (Kd.N_far (p := ⟨gb199, 1, none⟩) (Kd.N_far (p := ⟨gb199, 0, none⟩) (Kd.N_mono HO195.out (fun k_ hk => (⟨hk, hk.2⟩ : _ ∧ k_ ≠ gb199))) (fun _ hk => hk.2) (.string t186)) (fun _ hk => hk.2) (.slice Ao11 t187.length co11)) (fun _ hk => hk.2) (.slice Ao12 t190.length co12)) (fun _ hk => hk.2) (.slice Ao13 t193.length co13)) (fun _ hk => hk.2) (.slice Ao14 t196.length co14)) (fun _ h_ => h_.1))) (by first | exact Kd.N_base ho0 | exact Kd.S_base ho0) hb); have n4_ := aM (Kd.N_elder' (by refine oN ?_; exact (Kd.N_mono (Kd.N_far (p := ⟨gb199, 4, none⟩) (Kd.N_far (p := ⟨gb199, 3, none⟩) (Kd.N_far (p := ⟨gb199, 2, none⟩) (Kd.N_far (p := ⟨gb199, 1, none⟩) (Kd.N_far (p := ⟨gb199, 0, none⟩) (Kd.N_mono HO198.out (fun k_ hk => (⟨hk, hk.2⟩ : _ ∧ k_ ≠ gb199))) (fun _ hk => hk.2) (.string t186)) (fun _ hk => hk.2) (.slice Ao11 t187.length co11)) (fun _ hk => hk.2) (.slice Ao12 t190.length co12)) (fun _ hk => hk.2) (.slice Ao13 t193.length co13)) (fun _ hk => hk.2) (.slice Ao14 t196.length co14)) (fun _ h_ => h_.1))) (by first | exact Kd.N_base ho0 | exact Kd.S_base ho0) hb); have n5_ := aM (Kd.N_lower (Kd.N_mono (ok' := fun k_ => some k_ ≠ (.slice Ao15 t183.length co15 : Value).ownBlock ∧ some k_ ≠ (.slice Ao11 t187.length co11 : Value).ownBlock ∧ some k_ ≠ (.slice Ao12 t190.length co12 : Value).ownBlock ∧ some k_ ≠ (.slice Ao13 t193.length co13 : Value).ownBlock ∧ some k_ ≠ (.slice Ao14 t196.length co14 : Value).ownBlock ∧ k_ ≠ gb199) (Kd.S_N (Kd.S_bound ho0)) (fun k_ hk_ => ⟨(Kd.fresh' (Kd.N_lt (by refine oN ?_; exact (Kd.N_mono (Kd.N_far (p := ⟨gb199, 4, none⟩) (Kd.N_far (p := ⟨gb199, 3, none⟩) (Kd.N_far (p := ⟨gb199, 2, none⟩) (Kd.N_far (p := ⟨gb199, 1, none⟩) (Kd.N_far (p := ⟨gb199, 0, none⟩) (Kd.N_mono HO185.out (fun k_ hk => (⟨hk, hk.2⟩ : _ ∧ k_ ≠ gb199))) (fun _ hk => hk.2) (.string t186)) (fun _ hk => hk.2) (.slice Ao11 t187.length co11)) (fun _ hk => hk.2) (.slice Ao12 t190.length co12)) (fun _ hk => hk.2) (.slice Ao13 t193.length co13)) (fun _ hk => hk.2) (.slice Ao14 t196.length co14)) (fun _ h_ => h_.1)))) k_ hk_.2.1), (Kd.fresh' (Kd.R_lt (by refine oR ?_; exact (tR HO189.out BK199.out))) k_ hk_.2.1), (Kd.fresh' (Kd.R_lt (by refine oR ?_; exact (tR HO192.out BK199.out))) k_ hk_.2.1), (Kd.fresh' (Kd.N_lt (by refine oN ?_; exact (Kd.N_mono (Kd.N_far (p := ⟨gb199, 4, none⟩) (Kd.N_far (p := ⟨gb199, 3, none⟩) (Kd.N_far (p := ⟨gb199, 2, none⟩) (Kd.N_far (p := ⟨gb199, 1, none⟩) (Kd.N_far (p := ⟨gb199, 0, none⟩) (Kd.N_mono HO195.out (fun k_ hk => (⟨hk, hk.2⟩ : _ ∧ k_ ≠ gb199))) (fun _ hk => hk.2) (.string t186)) (fun _ hk => hk.2) (.slice Ao11 t187.length co11)) (fun _ hk => hk.2) (.slice Ao12 t190.length co12)) (fun _ hk => hk.2) (.slice Ao13 t193.length co13)) (fun _ hk => hk.2) (.slice Ao14 t196.length co14)) (fun _ h_ => h_.1)))) k_ hk_.2.1), (Kd.fresh' (Kd.N_lt (by refine oN ?_; exact (Kd.N_mono (Kd.N_far (p := ⟨gb199, 4, none⟩) (Kd.N_far (p := ⟨gb199, 3, none⟩) (Kd.N_far (p := ⟨gb199, 2, none⟩) (Kd.N_far (p := ⟨gb199, 1, none⟩) (Kd.N_far (p := ⟨gb199, 0, none⟩) (Kd.N_mono HO198.out (fun k_ hk => (⟨hk, hk.2⟩ : _ ∧ k_ ≠ gb199))) (fun _ hk => hk.2) (.string t186)) (fun _ hk => hk.2) (.slice Ao11 t187.length co11)) (fun _ hk => hk.2) (.slice Ao12 t190.length co12)) (fun _ hk => hk.2) (.slice Ao13 t193.length co13)) (fun _ hk => hk.2) (.slice Ao14 t196.length co14)) (fun _ h_ => h_.1)))) k_ hk_.2.1), (Kd.freshB (g := gb199) (o := .cells #[.string t186, .slice Ao11 t187.length co11, .slice Ao12 t190.length co12, .slice Ao13 t193.length co13, .slice Ao14 t196.length co14] 27 (0, 0)) (by refine kR ?_; refine blk_put (cs := #[.string t186, .slice Ao11 t187.length co11, .slice Ao12 t190.length co12, .slice Ao13 t193.length co13, .slice none 0 0]) ?_ 4 _ rfl; refine kR ?_; refine blk_put (cs := #[.string t186, .slice Ao11 t187.length co11, .slice Ao12 t190.length co12, .slice none 0 0, .slice none 0 0]) ?_ 3 _ rfl; refine kR ?_; refine blk_put (cs := #[.string t186, .slice Ao11 t187.length co11, .slice none 0 0, .slice none 0 0, .slice none 0 0]) ?_ 2 _ rfl; refine kR ?_; refine blk_put (cs := #[.string t186, .slice none 0 0, .slice none 0 0, .slice none 0 0, .slice none 0 0]) ?_ 1 _ rfl; refine kR ?_; refine blk_put (cs := #[.string (⟨#[]⟩ : ByteArray), .slice none 0 0, .slice none 0 0, .slice none 0 0, .slice none 0 0]) ?_ 0 _ rfl; refine kR ?_; exact BK199.out) k_ hk_.2.1)⟩)) (below_size (bB1 HB.out GE199.out))); have n6_ := aM (blk_below (g := gb199) (o := .cells #[.string t186, .slice Ao11 t187.length co11, .slice Ao12 t190.length co12, .slice Ao13 t193.length co13, .slice Ao14 t196.length co14] 27 (0, 0)) (by refine kR ?_; refine blk_put (cs := #[.string t186, .slice Ao11 t187.length co11, .slice Ao12 t190.length co12, .slice Ao13 t193.length co13, .slice none 0 0]) ?_ 4 _ rfl; refine kR ?_; refine blk_put (cs := #[.string t186, .slice Ao11 t187.length co11, .slice Ao12 t190.length co12, .slice none 0 0, .slice none 0 0]) ?_ 3 _ rfl; refine kR ?_; refine blk_put (cs := #[.string t186, .slice Ao11 t187.length co11, .slice none 0 0, .slice none 0 0, .slice none 0 0]) ?_ 2 _ rfl; refine kR ?_; refine blk_put (cs := #[.string t186, .slice none 0 0, .slice none 0 0, .slice none 0 0, .slice none 0 0]) ?_ 1 _ rfl; refine kR ?_; refine blk_put (cs := #[.string (⟨#[]⟩ : ByteArray), .slice none 0 0, .slice none 0 0, .slice none 0 0, .slice none 0 0]) ?_ 0 _ rfl; refine kR ?_; exact BK199.out) hb); have n7_ := aM (below_step (bB1 HB.out GE199.out) hb); clear HO185; clear HO189; clear HO192; clear HO195; clear HO198; clear BK199; clear HB; have HO185 := n0_; have HO189 := n1_; have HO192 := n2_; have HO195 := n3_; have HO198 := n4_; have HO202 := n5_; have BK199 := n6_; have HB := n7_; clear n0_ n1_ n2_ n3_ n4_ n5_ n6_ n7_; (try clear hb); (try clear hb2); (try clear hk); (try clear hi); (try clear ho0); have hcz17_0 : w16.cell? ⟨gb199, 0, none⟩ = some (.string t186) := (blk_cell BK199.out 0).trans rfl; have hcz17_1 : w16.cell? ⟨gb199, 1, none⟩ = some (.slice Ao11 t187.length co11) := (blk_cell BK199.out 1).trans rfl; have hcz17_2 : w16.cell? ⟨gb199, 2, none⟩ = some (.slice Ao12 t190.length co12) := (blk_cell BK199.out 2).trans rfl; have hcz17_3 : w16.cell? ⟨gb199, 3, none⟩ = some (.slice Ao13 t193.length co13) := (blk_cell BK199.out 3).trans rfl; have hcz17_4 : w16.cell? ⟨gb199, 4, none⟩ = some (.slice Ao14 t196.length co14) := (blk_cell BK199.out 4).trans rfl; have hfz17_0 := blk_frozen BK199.out 0; have hfz17_1 := blk_frozen BK199.out 1; have hfz17_2 := blk_frozen BK199.out 2; have hfz17_3 := blk_frozen BK199.out 3; have hfz17_4 := blk_frozen BK199.out 4) | ((with_reducible refine gate_dst (N := 18) rfl ?_); (try (refine gate_guard (by rfl) ?_; dsimp only)); refine Kd.R_lit k54 _ 54 ?hg (N := 18) ?hd (xs := ([(⟨2, 3, 1⟩ : S54), (⟨1, 5, 0⟩ : S54)] : List (S54))) (inner := [.int .i64 2, .int .i64 3, .int .i64 1, .int .i64 1, .int .i64 5, .int .i64 0]) (ok := fun _ => True) (okp := fun _ => True) ?hr ?hp (fun _ hk => hk) trivial (Below.refl _ _) (Nat.le_refl _) (by simp) ?_; (case hd => rfl); (case hg => rfl); (case hr => first | (go_simp; done) | (go_simp; rfl)); (case hp => exact (Reps.c3 (show Kd.M k54 _ _ _ (⟨2, 3, 1⟩ : S54) [.int .i64 2, .int .i64 3, .int .i64 1] from (k54_mkM _ _ _ (⟨2, 3, 1⟩ : S54) )) (Reps.c3 (show Kd.M k54 _ _ _ (⟨1, 5, 0⟩ : S54) [.int .i64 1, .int .i64 5, .int .i64 0] from (k54_mkM _ _ _ (⟨1, 5, 0⟩ : S54) )) (Reps.none _ _)))); intro v204 w18 ho19 hb hg_ hnew_; clear hg_ hnew_; (first | rw [← Ny203.out] at ho19 | (simp only [Int.reduceToNat] at ho19; rw [← Ny203.out] at ho19)); have n0_ := aM (Kd.N_elder' (oN HO185.out) (Kd.R_base ho19) hb); have n1_ := aM (Kd.R_below (oR HO189.out) hb); have n2_ := aM (Kd.R_below (oR HO192.out) hb); have n3_ := aM (Kd.N_elder' (oN HO195.out) (Kd.R_base ho19) hb); have n4_ := aM (Kd.N_elder' (oN HO198.out) (Kd.R_base ho19) hb); have n5_ := aM (Kd.N_elder' (oN HO202.out) (Kd.R_base ho19) hb); have n6_ := aM (Kd.R_lower ho19 (below_size (bB1 HB.out GE199.out))); have n7_ := aM (kW BK199.out hb); have n8_ := aM (below_step (bB1 HB.out GE199.out) hb); clear HO185; clear HO189; clear HO192; clear HO195; clear HO198; clear HO202; clear BK199; clear HB; have HO185 := n0_; have HO189 := n1_; have HO192 := n2_; have HO195 := n3_; have HO198 := n4_; have HO202 := n5_; have HO205 := n6_; have BK199 := n7_; have HB := n8_; clear n0_ n1_ n2_ n3_ n4_ n5_ n6_ n7_ n8_; clear hb ho19) | ((with_reducible refine gate_dst (N := 19) rfl ?_); (try (refine gate_guard (by rfl) ?_; dsimp only)); refine Kd.R_lit (Kd.int .i64) _ 3 ?hg (N := 19) ?hd (xs := ([0, 2] : List Int)) (inner := [.int .i64 0, .int .i64 2]) (ok := fun _ => True) (okp := fun _ => True) ?hr ?hp (fun _ hk => hk) trivial (Below.refl _ _) (Nat.le_refl _) (by simp) ?_; (case hd => rfl); (case hg => rfl); (case hr => first | (go_simp; done) | (go_simp; rfl)); (case hp => exact (Reps.one (show Kd.M (Kd.int .i64) _ _ _ 0 [.int .i64 0] from rfl) (Reps.one (show Kd.M (Kd.int .i64) _ _ _ 2 [.int .i64 2] from rfl) (Reps.none _ _)))); intro v207 w20 ho21 hb hg_ hnew_; clear hg_ hnew_; (first | rw [← Ny206.out] at ho21 | (simp only [Int.reduceToNat] at ho21; rw [← Ny206.out] at ho21)); have n0_ := aM (Kd.N_elder' (oN HO185.out) (Kd.R_base ho21) hb); have n1_ := aM (Kd.R_below (oR HO189.out) hb); have n2_ := aM (Kd.R_below (oR HO192.out) hb); have n3_ := aM (Kd.N_elder' (oN HO195.out) (Kd.R_base ho21) hb); have n4_ := aM (Kd.N_elder' (oN HO198.out) (Kd.R_base ho21) hb); have n5_ := aM (Kd.N_elder' (oN HO202.out) (Kd.R_base ho21) hb); have n6_ := aM (Kd.R_below (oR HO205.out) hb); have n7_ := aM (Kd.R_lower ho21 (below_size (bB1 HB.out GE199.out))); have n8_ := aM (kW BK199.out hb); have n9_ := aM (below_step (bB1 HB.out GE199.out) hb); clear HO185; clear HO189; clear HO192; clear HO195; clear HO198; clear HO202; clear HO205; clear BK199; clear HB; have HO185 := n0_; have HO189 := n1_; have HO192 := n2_; have HO195 := n3_; have HO198 := n4_; have HO202 := n5_; have HO205 := n6_; have HO208 := n7_; have BK199 := n8_; have HB := n9_; clear n0_ n1_ n2_ n3_ n4_ n5_ n6_ n7_ n8_ n9_; clear hb ho21; obtain ⟨Ao22, co22, eo22⟩ := Kd.R_slice HO205.out; subst eo22; obtain ⟨Ao23, co23, eo23⟩ := Kd.R_slice HO208.out; subst eo23) | ((with_reducible refine gate_callee (f := 15) rfl ?_); refine goesL_ (some 20) rfl rfl Try.func15 (by kernel_rfl) rfl #[.slice Ao15 t183.length co15, .agg #[.string t186, .slice Ao11 t187.length co11, .slice Ao12 t190.length co12, .slice Ao13 t193.length co13, .slice Ao14 t196.length co14], .int .i64 0, .slice Ao22 y203.length co22, .slice Ao23 y206.length co23] rfl mT ?_; (with_reducible refine (binding_Eval.calls k _ _ t183 t186 _ _ t187 _ _ t190 _ _ t193 _ _ t196 0 _ _ y203 _ _ y206 t209 t212 _ ?side1 ?side2 ?side3 ?side4 ?side5 ?side6 ?side7 ?side8 ?side9 ?side10 ?side11 ?side12 ?side13 ?side14 A4.out).mono ?_); (case side1 => repeat (first | exact (Kd.N_reads' HO185.out).2.2 | (with_reducible refine Kd.C_alloc ?_ _) | (with_reducible refine Kd.C_drewN ?_ _) | (with_reducible refine Kd.C_drew ?_))); (case side2 => exact (Kd.N_reads' HO185.out).2.1); (case side3 => repeat (first | exact (Kd.R_reads' HO189.out).2.2 | (with_reducible refine Kd.C_alloc ?_ _) | (with_reducible refine Kd.C_drewN ?_ _) | (with_reducible refine Kd.C_drew ?_))); (case side4 => exact (Kd.R_reads' HO189.out).2.1); (case side5 => repeat (first | exact (Kd.R_reads' HO192.out).2.2 | (with_reducible refine Kd.C_alloc ?_ _) | (with_reducible refine Kd.C_drewN ?_ _) | (with_reducible refine Kd.C_drew ?_))); (case side6 => exact (Kd.R_reads' HO192.out).2.1); (case side7 => repeat (first | exact (Kd.N_reads' HO195.out).2.2 | (with_reducible refine Kd.C_alloc ?_ _) | (with_reducible refine Kd.C_drewN ?_ _) | (with_reducible refine Kd.C_drew ?_))); (case side8 => exact (Kd.N_reads' HO195.out).2.1); (case side9 => repeat (first | exact (Kd.N_reads' HO198.out).2.2 | (with_reducible refine Kd.C_alloc ?_ _) | (with_reducible refine Kd.C_drewN ?_ _) | (with_reducible refine Kd.C_drew ?_))); (case side10 => exact (Kd.N_reads' HO198.out).2.1); (case side11 => repeat (first | exact (Kd.R_reads' HO205.out).2.2 | (with_reducible refine Kd.C_alloc ?_ _) | (with_reducible refine Kd.C_drewN ?_ _) | (with_reducible refine Kd.C_drew ?_))); (case side12 => exact (Kd.R_reads' HO205.out).2.1); (case side13 => repeat (first | exact (Kd.R_reads' HO208.out).2.2 | (with_reducible refine Kd.C_alloc ?_ _) | (with_reducible refine Kd.C_drewN ?_ _) | (with_reducible refine Kd.C_drew ?_))); (case side14 => exact (Kd.R_reads' HO208.out).2.1); rintro e w24 ⟨v210, rfl, ho0, hb⟩; refine ⟨_, rfl, ?_⟩; have n0_ := aM (Kd.N_elder' (oN HO185.out) (Kd.R_base ho0) hb); have n1_ := aM (Kd.R_below (oR HO189.out) hb); have n2_ := aM (Kd.R_below (oR HO192.out) hb); have n3_ := aM (Kd.N_elder' (oN HO195.out) (Kd.R_base ho0) hb); have n4_ := aM (Kd.N_elder' (oN HO198.out) (Kd.R_base ho0) hb); have n5_ := aM (Kd.N_elder' (oN HO202.out) (Kd.R_base ho0) hb); have n6_ := aM (Kd.R_below (oR HO205.out) hb); have n7_ := aM (Kd.R_elder' (oR HO208.out) (Kd.R_base ho0) hb); have n8_ := aM (Kd.R_lower (Kd.R_new' ho0 (Kd.R_lt (oR HO208.out))) (below_size (bB1 HB.out GE199.out))); have n9_ := aM (kW BK199.out hb); have n10_ := aM (below_step (bB1 HB.out GE199.out) hb); clear HO185; clear HO189; clear HO192; clear HO195; clear HO198; clear HO202; clear HO205; clear HO208; clear BK199; clear HB; have HO185 := n0_; have HO189 := n1_; have HO192 := n2_; have HO195 := n3_; have HO198 := n4_; have HO202 := n5_; have HO205 := n6_; have HO208 := n7_; have HO211 := n8_; have BK199 := n9_; have HB := n10_; clear n0_ n1_ n2_ n3_ n4_ n5_ n6_ n7_ n8_ n9_ n10_; (try clear hb); (try clear hb2); (try clear hk); (try clear hi); (try clear ho0); have hcz25_0 : w24.cell? ⟨gb199, 0, none⟩ = some (.string t186) := (blk_cell BK199.out 0).trans rfl; have hcz25_1 : w24.cell? ⟨gb199, 1, none⟩ = some (.slice Ao11 t187.length co11) := (blk_cell BK199.out 1).trans rfl; have hcz25_2 : w24.cell? ⟨gb199, 2, none⟩ = some (.slice Ao12 t190.length co12) := (blk_cell BK199.out 2).trans rfl; have hcz25_3 : w24.cell? ⟨gb199, 3, none⟩ = some (.slice Ao13 t193.length co13) := (blk_cell BK199.out 3).trans rfl; have hcz25_4 : w24.cell? ⟨gb199, 4, none⟩ = some (.slice Ao14 t196.length co14) := (blk_cell BK199.out 4).trans rfl; have hfz25_0 := blk_frozen BK199.out 0; have hfz25_1 := blk_frozen BK199.out 1; have hfz25_2 := blk_frozen BK199.out 2; have hfz25_3 := blk_frozen BK199.out 3; have hfz25_4 := blk_frozen BK199.out 4) | ((with_reducible refine gate_dst (N := 26) rfl ?_); (try (refine gate_guard (by rfl) ?_; dsimp only)); refine Kd.R_lit (Kd.int .i64) _ 3 ?hg (N := 26) ?hd (xs := ([0, 3] : List Int)) (inner := [.int .i64 0, .int .i64 3]) (ok := fun _ => True) (okp := fun _ => True) ?hr ?hp (fun _ hk => hk) trivial (Below.refl _ _) (Nat.le_refl _) (by simp) ?_; (case hd => rfl); (case hg => rfl); (case hr => first | (go_simp; done) | (go_simp; rfl)); (case hp => exact (Reps.one (show Kd.M (Kd.int .i64) _ _ _ 0 [.int .i64 0] from rfl) (Reps.one (show Kd.M (Kd.int .i64) _ _ _ 3 [.int .i64 3] from rfl) (Reps.none _ _)))); intro v214 w26 ho27 hb hg_ hnew_; clear hg_ hnew_; (first | rw [← Ny213.out] at ho27 | (simp only [Int.reduceToNat] at ho27; rw [← Ny213.out] at ho27)); have n0_ := aM (Kd.N_elder' (oN HO185.out) (Kd.R_base ho27) hb); have n1_ := aM (Kd.R_below (oR HO189.out) hb); have n2_ := aM (Kd.R_below (oR HO192.out) hb); have n3_ := aM (Kd.N_elder' (oN HO195.out) (Kd.R_base ho27) hb); have n4_ := aM (Kd.N_elder' (oN HO198.out) (Kd.R_base ho27) hb); have n5_ := aM (Kd.N_elder' (oN HO202.out) (Kd.R_base ho27) hb); have n6_ := aM (Kd.R_below (oR HO205.out) hb); have n7_ := aM (Kd.R_elder' (oR HO208.out) (Kd.R_base ho27) hb); have n8_ := aM (Kd.R_elder' (oR HO211.out) (Kd.R_base ho27) hb); have n9_ := aM (Kd.R_lower (Kd.R_new' (Kd.R_new' ho27 (Kd.R_lt (oR HO208.out))) (Kd.R_lt (oR HO211.out))) (below_size (bB1 HB.out GE199.out))); have n10_ := aM (kW BK199.out hb); have n11_ := aM (below_step (bB1 HB.out GE199.out) hb); clear HO185; clear HO189; clear HO192; clear HO195; clear HO198; clear HO202; clear HO205; clear HO208; clear HO211; clear BK199; clear HB; have HO185 := n0_; have HO189 := n1_; have HO192 := n2_; have HO195 := n3_; have HO198 := n4_; have HO202 := n5_; have HO205 := n6_; have HO208 := n7_; have HO211 := n8_; have HO215 := n9_; have BK199 := n10_; have HB := n11_; clear n0_ n1_ n2_ n3_ n4_ n5_ n6_ n7_ n8_ n9_ n10_ n11_; clear hb ho27; obtain ⟨Ao28, co28, eo28⟩ := Kd.R_slice HO215.out; subst eo28) | ((with_reducible refine gate_callee (f := 15) rfl ?_); refine goesL_ (some 27) rfl rfl Try.func15 (by kernel_rfl) rfl #[.slice Ao15 t183.length co15, .agg #[.string t186, .slice Ao11 t187.length co11, .slice Ao12 t190.length co12, .slice Ao13 t193.length co13, .slice Ao14 t196.length co14], .int .i64 0, .slice none 0 0, .slice Ao28 y213.length co28] rfl mT ?_; (refine (binding_Eval.calls k _ _ t183 t186 _ _ t187 _ _ t190 _ _ t193 _ _ t196 0 _ _ ([] : List (S54)) _ _ y213 t216 t219 _ ?side1 ?side2 ?side3 ?side4 ?side5 ?side6 ?side7 ?side8 ?side9 ?side10 ?side11 ?side12 ?side13 ?side14 A5.out).mono ?_); (case side1 => repeat (first | exact (Kd.N_reads' HO185.out).2.2 | (with_reducible refine Kd.C_alloc ?_ _) | (with_reducible refine Kd.C_drewN ?_ _) | (with_reducible refine Kd.C_drew ?_))); (case side2 => exact (Kd.N_reads' HO185.out).2.1); (case side3 => repeat (first | exact (Kd.R_reads' HO189.out).2.2 | (with_reducible refine Kd.C_alloc ?_ _) | (with_reducible refine Kd.C_drewN ?_ _) | (with_reducible refine Kd.C_drew ?_))); (case side4 => exact (Kd.R_reads' HO189.out).2.1); (case side5 => repeat (first | exact (Kd.R_reads' HO192.out).2.2 | (with_reducible refine Kd.C_alloc ?_ _) | (with_reducible refine Kd.C_drewN ?_ _) | (with_reducible refine Kd.C_drew ?_))); (case side6 => exact (Kd.R_reads' HO192.out).2.1); (case side7 => repeat (first | exact (Kd.N_reads' HO195.out).2.2 | (with_reducible refine Kd.C_alloc ?_ _) | (with_reducible refine Kd.C_drewN ?_ _) | (with_reducible refine Kd.C_drew ?_))); (case side8 => exact (Kd.N_reads' HO195.out).2.1); (case side9 => repeat (first | exact (Kd.N_reads' HO198.out).2.2 | (with_reducible refine Kd.C_alloc ?_ _) | (with_reducible refine Kd.C_drewN ?_ _) | (with_reducible refine Kd.C_drew ?_))); (case side10 => exact (Kd.N_reads' HO198.out).2.1); (case side11 => exact Kd.C_nil _ _); (case side12 => exact Nat.le_refl _); (case side13 => repeat (first | exact (Kd.R_reads' HO215.out).2.2 | (with_reducible refine Kd.C_alloc ?_ _) | (with_reducible refine Kd.C_drewN ?_ _) | (with_reducible refine Kd.C_drew ?_))); (case side14 => exact (Kd.R_reads' HO215.out).2.1); rintro e w29 ⟨v217, rfl, ho0, hb⟩; refine ⟨_, rfl, ?_⟩; have n0_ := aM (Kd.N_elder' (oN HO185.out) (Kd.R_base ho0) hb); have n1_ := aM (Kd.R_below (oR HO189.out) hb); have n2_ := aM (Kd.R_below (oR HO192.out) hb); have n3_ := aM (Kd.N_elder' (oN HO195.out) (Kd.R_base ho0) hb); have n4_ := aM (Kd.N_elder' (oN HO198.out) (Kd.R_base ho0) hb); have n5_ := aM (Kd.N_elder' (oN HO202.out) (Kd.R_base ho0) hb); have n6_ := aM (Kd.R_below (oR HO205.out) hb); have n7_ := aM (Kd.R_elder' (oR HO208.out) (Kd.R_base ho0) hb); have n8_ := aM (Kd.R_elder' (oR HO211.out) (Kd.R_base ho0) hb); have n9_ := aM (Kd.R_elder' (oR HO215.out) (Kd.R_base ho0) hb); have n10_ := aM (Kd.R_lower (Kd.R_new' (Kd.R_new' (Kd.R_new' ho0 (Kd.R_lt (oR HO208.out))) (Kd.R_lt (oR HO211.out))) (Kd.R_lt (oR HO215.out))) (below_size (bB1 HB.out GE199.out))); have n11_ := aM (kW BK199.out hb); have n12_ := aM (below_step (bB1 HB.out GE199.out) hb); clear HO185; clear HO189; clear HO192; clear HO195; clear HO198; clear HO202; clear HO205; clear HO208; clear HO211; clear HO215; clear BK199; clear HB; have HO185 := n0_; have HO189 := n1_; have HO192 := n2_; have HO195 := n3_; have HO198 := n4_; have HO202 := n5_; have HO205 := n6_; have HO208 := n7_; have HO211 := n8_; have HO215 := n9_; have HO218 := n10_; have BK199 := n11_; have HB := n12_; clear n0_ n1_ n2_ n3_ n4_ n5_ n6_ n7_ n8_ n9_ n10_ n11_ n12_; (try clear hb); (try clear hb2); (try clear hk); (try clear hi); (try clear ho0)))
 (try simp only [Act.put, List.setIfInBounds_toArray, List.set_cons_zero, List.set_cons_succ])
 go_cut [109] (fun v109 wc => ∃ (kq : Nat) (x109_5 : Bool), v109 = .bool x109_5 ∧ Aside0 (l40_lives.j0 kq t183 x109_5 t186 t187 t190 t193 t196 = some r) ∧ Aside0 (kq ≤ k) ∧ Aside0 (Kd.N k51 51 wc w.heap.size (fun k_ => some k_ ≠ ((.slice Ao11 t187.length co11) : Value).ownBlock ∧ some k_ ≠ ((.slice Ao12 t190.length co12) : Value).ownBlock ∧ some k_ ≠ ((.slice Ao13 t193.length co13) : Value).ownBlock ∧ some k_ ≠ ((.slice Ao14 t196.length co14) : Value).ownBlock ∧ k_ ≠ gb199) (.slice Ao15 t183.length co15) t183) ∧ Aside0 (Kd.R k48 48 wc w.heap.size (fun _ => True) (.slice Ao11 t187.length co11) t187) ∧ Aside0 (Kd.R k62 62 wc w.heap.size (fun _ => True) (.slice Ao12 t190.length co12) t190) ∧ Aside0 (Kd.N k111 111 wc w.heap.size (fun k_ => some k_ ≠ ((.slice Ao15 t183.length co15) : Value).ownBlock ∧ some k_ ≠ ((.slice Ao11 t187.length co11) : Value).ownBlock ∧ some k_ ≠ ((.slice Ao12 t190.length co12) : Value).ownBlock ∧ some k_ ≠ ((.slice Ao14 t196.length co14) : Value).ownBlock ∧ k_ ≠ gb199) (.slice Ao13 t193.length co13) t193) ∧ Aside0 (Kd.N k111 111 wc w.heap.size (fun k_ => some k_ ≠ ((.slice Ao15 t183.length co15) : Value).ownBlock ∧ some k_ ≠ ((.slice Ao11 t187.length co11) : Value).ownBlock ∧ some k_ ≠ ((.slice Ao12 t190.length co12) : Value).ownBlock ∧ some k_ ≠ ((.slice Ao13 t193.length co13) : Value).ownBlock ∧ k_ ≠ gb199) (.slice Ao14 t196.length co14) t196) ∧ Aside0 (wc.heap[gb199]? = some (.cells #[.string t186, (.slice Ao11 t187.length co11), (.slice Ao12 t190.length co12), (.slice Ao13 t193.length co13), (.slice Ao14 t196.length co14)] 27 (0, 0))) ∧ Aside0 (Below w.heap.size w wc))
 case first =>
  have H := HC6.out; clear HC6
  by_cases c30 : (t200.length : Int) = 3
  ·rw [if_pos c30] at H
   have c30b0 : ((t200.length : Int) == 3) = true := beq_iff_eq.mpr c30; have c30b1 : ((t200.length : Int) != 3) = false := bne_eq_false_iff_eq.mpr c30; clear c30
   (first | rw [c30b0] | (simp only [i64_w, i32_w]; rw [c30b0]) | skip)
   by_cases c31 : 0 < (t200.length : Int)
   ·rw [if_pos c31] at H
    have c31b0 : decide (0 < (t200.length : Int)) = true := decide_eq_true c31; have c31b1 : decide (0 < t200.length) = true := decide_eq_true (by omega); clear c31
    by_cases c32 : ((rd_L15 t200 0).length : Int) = 2
    ·rw [if_pos c32] at H
     have c32b0 : (((rd_L15 t200 0).length : Int) == 2) = true := beq_iff_eq.mpr c32; have c32b1 : (((rd_L15 t200 0).length : Int) != 2) = false := bne_eq_false_iff_eq.mpr c32; clear c32
     by_cases c33 : 0 < ((rd_L15 t200 0).length : Int)
     ·rw [if_pos c33] at H
      have c33b0 : decide (0 < ((rd_L15 t200 0).length : Int)) = true := decide_eq_true c33; have c33b1 : decide (0 < (rd_L15 t200 0).length) = true := decide_eq_true (by omega); clear c33
      by_cases c34 : (rd (rd_L15 t200 0) 0) = 0
      ·rw [if_pos c34] at H
       have c34b0 : ((rd (rd_L15 t200 0) 0) == 0) = true := beq_iff_eq.mpr c34; have c34b1 : ((rd (rd_L15 t200 0) 0) != 0) = false := bne_eq_false_iff_eq.mpr c34; clear c34
       by_cases c35 : 1 < ((rd_L15 t200 0).length : Int)
       ·rw [if_pos c35] at H
        have c35b0 : decide (1 < ((rd_L15 t200 0).length : Int)) = true := decide_eq_true c35; have c35b1 : decide (1 < (rd_L15 t200 0).length) = true := decide_eq_true (by omega); clear c35
        by_cases c36 : (rd (rd_L15 t200 0) 1) = 1
        ·rw [if_pos c36] at H
         have c36b0 : ((rd (rd_L15 t200 0) 1) == 1) = true := beq_iff_eq.mpr c36; have c36b1 : ((rd (rd_L15 t200 0) 1) != 1) = false := bne_eq_false_iff_eq.mpr c36; clear c36
         by_cases c37 : 2 < (t200.length : Int)
         ·rw [if_pos c37] at H
          have c37b0 : decide (2 < (t200.length : Int)) = true := decide_eq_true c37; have c37b1 : decide (2 < t200.length) = true := decide_eq_true (by omega); clear c37
          by_cases c38 : ((rd_L15 t200 2).length : Int) = 2
          ·rw [if_pos c38] at H
           have c38b0 : (((rd_L15 t200 2).length : Int) == 2) = true := beq_iff_eq.mpr c38; have c38b1 : (((rd_L15 t200 2).length : Int) != 2) = false := bne_eq_false_iff_eq.mpr c38; clear c38
           by_cases c39 : 0 < ((rd_L15 t200 2).length : Int)
           ·rw [if_pos c39] at H
            have c39b0 : decide (0 < ((rd_L15 t200 2).length : Int)) = true := decide_eq_true c39; have c39b1 : decide (0 < (rd_L15 t200 2).length) = true := decide_eq_true (by omega); clear c39
            by_cases c40 : (rd (rd_L15 t200 2) 0) = 1
            ·rw [if_pos c40] at H
             have c40b0 : ((rd (rd_L15 t200 2) 0) == 1) = true := beq_iff_eq.mpr c40; have c40b1 : ((rd (rd_L15 t200 2) 0) != 1) = false := bne_eq_false_iff_eq.mpr c40; clear c40
             by_cases c41 : 1 < ((rd_L15 t200 2).length : Int)
             ·rw [if_pos c41] at H
              have c41b0 : decide (1 < ((rd_L15 t200 2).length : Int)) = true := decide_eq_true c41; have c41b1 : decide (1 < (rd_L15 t200 2).length) = true := decide_eq_true (by omega); clear c41
              by_cases c42 : (rd (rd_L15 t200 2) 1) = 2
              ·rw [if_pos c42] at H
               have c42b0 : ((rd (rd_L15 t200 2) 1) == 2) = true := beq_iff_eq.mpr c42; have c42b1 : ((rd (rd_L15 t200 2) 1) != 2) = false := bne_eq_false_iff_eq.mpr c42; clear c42
               by_cases c43 : (t209.length : Int) = 3
               ·rw [if_pos c43] at H
                have c43b0 : ((t209.length : Int) == 3) = true := beq_iff_eq.mpr c43; have c43b1 : ((t209.length : Int) != 3) = false := bne_eq_false_iff_eq.mpr c43; clear c43
                by_cases c44 : 0 < (t209.length : Int)
                ·rw [if_pos c44] at H
                 have c44b0 : decide (0 < (t209.length : Int)) = true := decide_eq_true c44; have c44b1 : decide (0 < t209.length) = true := decide_eq_true (by omega); clear c44
                 by_cases c45 : (rd t209 0) = 3
                 ·rw [if_pos c45] at H
                  have c45b0 : ((rd t209 0) == 3) = true := beq_iff_eq.mpr c45; have c45b1 : ((rd t209 0) != 3) = false := bne_eq_false_iff_eq.mpr c45; clear c45
                  by_cases c46 : 1 < (t209.length : Int)
                  ·rw [if_pos c46] at H
                   have c46b0 : decide (1 < (t209.length : Int)) = true := decide_eq_true c46; have c46b1 : decide (1 < t209.length) = true := decide_eq_true (by omega); clear c46
                   by_cases c47 : (rd t209 1) = 1
                   ·rw [if_pos c47] at H
                    have c47b0 : ((rd t209 1) == 1) = true := beq_iff_eq.mpr c47; have c47b1 : ((rd t209 1) != 1) = false := bne_eq_false_iff_eq.mpr c47; clear c47
                    by_cases c48 : 2 < (t209.length : Int)
                    ·rw [if_pos c48] at H
                     have c48b0 : decide (2 < (t209.length : Int)) = true := decide_eq_true c48; have c48b1 : decide (2 < t209.length) = true := decide_eq_true (by omega); clear c48
                     by_cases c49 : (rd t209 2) = 1
                     ·rw [if_pos c49] at H
                      have c49b0 : ((rd t209 2) == 1) = true := beq_iff_eq.mpr c49; have c49b1 : ((rd t209 2) != 1) = false := bne_eq_false_iff_eq.mpr c49; clear c49
                      by_cases c50 : t212 = 0
                      ·rw [if_pos c50] at H
                       have c50b0 : (t212 == 0) = true := beq_iff_eq.mpr c50; have c50b1 : (t212 != 0) = false := bne_eq_false_iff_eq.mpr c50; clear c50
                       have H' := aM H
                       clear H; obtain ⟨Ao51, co51, eo51⟩ := Kd.N_slice HO202.out; subst eo51; have p220 : 0 ≤ (0 : Int) := (by omega); have q220 : 0 < (t200.length : Int) := dT; obtain ⟨ad220, A220_0, c220_0, e220, hx220_0, hl220_0, hi220_0⟩ := at_L15 (Kd.N_reads' HO202.out).2.2 0 p220 q220; cases e220; obtain ⟨ce220, hce220, hMe220, hcc220⟩ := Kd.N_get HO202.out [] 0 p220 (by first | exact q220 | exact dT | (have e_ := (Kd.N_reads' HO202.out).1; omega)); obtain ⟨ua220_0, uc220_0, rfl, ul220_0, ge220_0⟩ := Kd.FK_slice_open hMe220; have hv220_0 := hcc220 0 _ rfl; rw [Nat.add_zero, show ((Kd.slice 3 (Kd.int .i64))).sz = 1 from rfl, Nat.mul_one] at hv220_0; replace hv220_0 := Option.some.inj (hv220_0.symm.trans hx220_0); injection hv220_0 with hva_ hvn_ hvc_; rw [hva_] at ge220_0; rw [hvc_] at ul220_0; have HL220_0 := aM (show Kd.V (Kd.int .i64) 3 _ w.heap.size _ _ (rd_L15 t200 0) from Kd.V_mk ul220_0 ge220_0); clear hva_ hvn_ hvc_ ge220_0 ul220_0; clear hcc220 hce220; have qi220 : (0 < t200.length) = True := eq_true (by omega)
                       (try rw [show ((0 : Int)).toNat = 0 from rfl] at hx220_0)
                       (try rw [Addr.add_zero'] at hx220_0)
                       have HR220_0 := aM hi220_0; have HC220_0 := aM hl220_0; clear hi220_0 hl220_0; replace p220 := eq_true p220; replace q220 := eq_true q220; have p221 : 0 ≤ (0 : Int) := (by omega); have q221 : 0 < (t200.length : Int) := dT; obtain ⟨ad221, A221_0, c221_0, e221, hx221_0, hl221_0, hi221_0⟩ := at_L15 (Kd.N_reads' HO202.out).2.2 0 p221 q221; obtain rfl : ad220 = ad221 := (by injection e221); obtain ⟨ce221, hce221, hMe221, hcc221⟩ := Kd.N_get HO202.out [] 0 p221 (by first | exact q221 | exact dT | (have e_ := (Kd.N_reads' HO202.out).1; omega)); obtain ⟨ua221_0, uc221_0, rfl, ul221_0, ge221_0⟩ := Kd.FK_slice_open hMe221; have hv221_0 := hcc221 0 _ rfl; rw [Nat.add_zero, show ((Kd.slice 3 (Kd.int .i64))).sz = 1 from rfl, Nat.mul_one] at hv221_0; replace hv221_0 := Option.some.inj (hv221_0.symm.trans hx221_0); injection hv221_0 with hva_ hvn_ hvc_; rw [hva_] at ge221_0; rw [hvc_] at ul221_0; have HL221_0 := aM (show Kd.V (Kd.int .i64) 3 _ w.heap.size _ _ (rd_L15 t200 0) from Kd.V_mk ul221_0 ge221_0); clear hva_ hvn_ hvc_ ge221_0 ul221_0; clear hcc221 hce221; have qi221 : (0 < t200.length) = True := eq_true (by omega)
                       (try rw [show ((0 : Int)).toNat = 0 from rfl] at hx221_0)
                       (try rw [Addr.add_zero'] at hx221_0)
                       have HR221_0 := aM hi221_0; have HC221_0 := aM hl221_0; clear hi221_0 hl221_0; replace p221 := eq_true p221; replace q221 := eq_true q221; have ea_ := Option.some.inj (hx220_0.symm.trans hx221_0); injection ea_ with ea_ en_ ec_; subst ea_; subst ec_; clear en_; have p222 : 0 ≤ (0 : Int) := (by omega); have q222 : 0 < ((rd_L15 t200 0).length : Int) := dT; obtain ⟨ad222, e222, hx222_0⟩ := Kd.at_int (by repeat (first | (with_reducible exact HR221_0.out) | (with_reducible refine Kd.C_alloc ?_ _) | (with_reducible refine Kd.C_drewN ?_ _) | (with_reducible refine Kd.C_drew ?_) | exact HR221_0.out)) 0 p222 q222; cases e222; have qi222 : (0 < (rd_L15 t200 0).length) = True := eq_true (by omega)
                       (try rw [show ((0 : Int)).toNat = 0 from rfl] at hx222_0)
                       (try rw [Addr.add_zero'] at hx222_0)
                       replace p222 := eq_true p222; replace q222 := eq_true q222; have p223 : 0 ≤ (0 : Int) := (by omega); have q223 : 0 < (t200.length : Int) := dT; obtain ⟨ad223, A223_0, c223_0, e223, hx223_0, hl223_0, hi223_0⟩ := at_L15 (Kd.N_reads' HO202.out).2.2 0 p223 q223; obtain rfl : ad220 = ad223 := (by injection e223); obtain ⟨ce223, hce223, hMe223, hcc223⟩ := Kd.N_get HO202.out [] 0 p223 (by first | exact q223 | exact dT | (have e_ := (Kd.N_reads' HO202.out).1; omega)); obtain ⟨ua223_0, uc223_0, rfl, ul223_0, ge223_0⟩ := Kd.FK_slice_open hMe223; have hv223_0 := hcc223 0 _ rfl; rw [Nat.add_zero, show ((Kd.slice 3 (Kd.int .i64))).sz = 1 from rfl, Nat.mul_one] at hv223_0; replace hv223_0 := Option.some.inj (hv223_0.symm.trans hx223_0); injection hv223_0 with hva_ hvn_ hvc_; rw [hva_] at ge223_0; rw [hvc_] at ul223_0; have HL223_0 := aM (show Kd.V (Kd.int .i64) 3 _ w.heap.size _ _ (rd_L15 t200 0) from Kd.V_mk ul223_0 ge223_0); clear hva_ hvn_ hvc_ ge223_0 ul223_0; clear hcc223 hce223; have qi223 : (0 < t200.length) = True := eq_true (by omega)
                       (try rw [show ((0 : Int)).toNat = 0 from rfl] at hx223_0)
                       (try rw [Addr.add_zero'] at hx223_0)
                       have HR223_0 := aM hi223_0; have HC223_0 := aM hl223_0; clear hi223_0 hl223_0; replace p223 := eq_true p223; replace q223 := eq_true q223; have ea_ := Option.some.inj (hx220_0.symm.trans hx223_0); injection ea_ with ea_ en_ ec_; subst ea_; subst ec_; clear en_; have p224 : 0 ≤ (1 : Int) := (by omega); have q224 : 1 < ((rd_L15 t200 0).length : Int) := dT; obtain ⟨ad224, e224, hx224_0⟩ := Kd.at_int (by repeat (first | (with_reducible exact HR223_0.out) | (with_reducible refine Kd.C_alloc ?_ _) | (with_reducible refine Kd.C_drewN ?_ _) | (with_reducible refine Kd.C_drew ?_) | exact HR223_0.out)) 1 p224 q224; cases e224
                       (try simp only [show (1 : Int).toNat = 1 from rfl, Nat.reduceMul, Nat.reduceEqDiff, Go.Addr.add, ↓reduceIte] at hx224_0)
                       have qi224 : (1 < (rd_L15 t200 0).length) = True := eq_true (by omega)
                       (try rw [show ((1 : Int)).toNat = 1 from rfl] at hx224_0)
                       replace p224 := eq_true p224; replace q224 := eq_true q224; have p225 : 0 ≤ (2 : Int) := (by omega); have q225 : 2 < (t200.length : Int) := dT; obtain ⟨ad225, A225_0, c225_0, e225, hx225_0, hl225_0, hi225_0⟩ := at_L15 (Kd.N_reads' HO202.out).2.2 2 p225 q225; obtain rfl : ad220 = ad225 := (by injection e225); obtain ⟨ce225, hce225, hMe225, hcc225⟩ := Kd.N_get HO202.out [] 2 p225 (by first | exact q225 | exact dT | (have e_ := (Kd.N_reads' HO202.out).1; omega)); obtain ⟨ua225_0, uc225_0, rfl, ul225_0, ge225_0⟩ := Kd.FK_slice_open hMe225; have hv225_0 := hcc225 0 _ rfl; rw [Nat.add_zero, show ((Kd.slice 3 (Kd.int .i64))).sz = 1 from rfl, Nat.mul_one] at hv225_0; replace hv225_0 := Option.some.inj (hv225_0.symm.trans hx225_0); injection hv225_0 with hva_ hvn_ hvc_; rw [hva_] at ge225_0; rw [hvc_] at ul225_0; have HL225_0 := aM (show Kd.V (Kd.int .i64) 3 _ w.heap.size _ _ (rd_L15 t200 2) from Kd.V_mk ul225_0 ge225_0); clear hva_ hvn_ hvc_ ge225_0 ul225_0; clear hcc225 hce225
                       (try simp only [show (2 : Int).toNat = 2 from rfl, Nat.reduceMul, Nat.reduceEqDiff, Go.Addr.add, ↓reduceIte] at hx225_0)
                       have qi225 : (2 < t200.length) = True := eq_true (by omega)
                       (try rw [show ((2 : Int)).toNat = 2 from rfl] at hx225_0)
                       have HR225_0 := aM hi225_0; have HC225_0 := aM hl225_0; clear hi225_0 hl225_0; replace p225 := eq_true p225; replace q225 := eq_true q225; have p226 : 0 ≤ (2 : Int) := (by omega); have q226 : 2 < (t200.length : Int) := dT; obtain ⟨ad226, A226_0, c226_0, e226, hx226_0, hl226_0, hi226_0⟩ := at_L15 (Kd.N_reads' HO202.out).2.2 2 p226 q226; obtain rfl : ad220 = ad226 := (by injection e226); obtain ⟨ce226, hce226, hMe226, hcc226⟩ := Kd.N_get HO202.out [] 2 p226 (by first | exact q226 | exact dT | (have e_ := (Kd.N_reads' HO202.out).1; omega)); obtain ⟨ua226_0, uc226_0, rfl, ul226_0, ge226_0⟩ := Kd.FK_slice_open hMe226; have hv226_0 := hcc226 0 _ rfl; rw [Nat.add_zero, show ((Kd.slice 3 (Kd.int .i64))).sz = 1 from rfl, Nat.mul_one] at hv226_0; replace hv226_0 := Option.some.inj (hv226_0.symm.trans hx226_0); injection hv226_0 with hva_ hvn_ hvc_; rw [hva_] at ge226_0; rw [hvc_] at ul226_0; have HL226_0 := aM (show Kd.V (Kd.int .i64) 3 _ w.heap.size _ _ (rd_L15 t200 2) from Kd.V_mk ul226_0 ge226_0); clear hva_ hvn_ hvc_ ge226_0 ul226_0; clear hcc226 hce226
                       (try simp only [show (2 : Int).toNat = 2 from rfl, Nat.reduceMul, Nat.reduceEqDiff, Go.Addr.add, ↓reduceIte] at hx226_0)
                       have qi226 : (2 < t200.length) = True := eq_true (by omega)
                       (try rw [show ((2 : Int)).toNat = 2 from rfl] at hx226_0)
                       have HR226_0 := aM hi226_0; have HC226_0 := aM hl226_0; clear hi226_0 hl226_0; replace p226 := eq_true p226; replace q226 := eq_true q226; have ea_ := Option.some.inj (hx225_0.symm.trans hx226_0); injection ea_ with ea_ en_ ec_; subst ea_; subst ec_; clear en_; have p227 : 0 ≤ (0 : Int) := (by omega); have q227 : 0 < ((rd_L15 t200 2).length : Int) := dT; obtain ⟨ad227, e227, hx227_0⟩ := Kd.at_int (by repeat (first | (with_reducible exact HR226_0.out) | (with_reducible refine Kd.C_alloc ?_ _) | (with_reducible refine Kd.C_drewN ?_ _) | (with_reducible refine Kd.C_drew ?_) | exact HR226_0.out)) 0 p227 q227; cases e227; have qi227 : (0 < (rd_L15 t200 2).length) = True := eq_true (by omega)
                       (try rw [show ((0 : Int)).toNat = 0 from rfl] at hx227_0)
                       (try rw [Addr.add_zero'] at hx227_0)
                       replace p227 := eq_true p227; replace q227 := eq_true q227; have p228 : 0 ≤ (2 : Int) := (by omega); have q228 : 2 < (t200.length : Int) := dT; obtain ⟨ad228, A228_0, c228_0, e228, hx228_0, hl228_0, hi228_0⟩ := at_L15 (Kd.N_reads' HO202.out).2.2 2 p228 q228; obtain rfl : ad220 = ad228 := (by injection e228); obtain ⟨ce228, hce228, hMe228, hcc228⟩ := Kd.N_get HO202.out [] 2 p228 (by first | exact q228 | exact dT | (have e_ := (Kd.N_reads' HO202.out).1; omega)); obtain ⟨ua228_0, uc228_0, rfl, ul228_0, ge228_0⟩ := Kd.FK_slice_open hMe228; have hv228_0 := hcc228 0 _ rfl; rw [Nat.add_zero, show ((Kd.slice 3 (Kd.int .i64))).sz = 1 from rfl, Nat.mul_one] at hv228_0; replace hv228_0 := Option.some.inj (hv228_0.symm.trans hx228_0); injection hv228_0 with hva_ hvn_ hvc_; rw [hva_] at ge228_0; rw [hvc_] at ul228_0; have HL228_0 := aM (show Kd.V (Kd.int .i64) 3 _ w.heap.size _ _ (rd_L15 t200 2) from Kd.V_mk ul228_0 ge228_0); clear hva_ hvn_ hvc_ ge228_0 ul228_0; clear hcc228 hce228
                       (try simp only [show (2 : Int).toNat = 2 from rfl, Nat.reduceMul, Nat.reduceEqDiff, Go.Addr.add, ↓reduceIte] at hx228_0)
                       have qi228 : (2 < t200.length) = True := eq_true (by omega)
                       (try rw [show ((2 : Int)).toNat = 2 from rfl] at hx228_0)
                       have HR228_0 := aM hi228_0; have HC228_0 := aM hl228_0; clear hi228_0 hl228_0; replace p228 := eq_true p228; replace q228 := eq_true q228; have ea_ := Option.some.inj (hx225_0.symm.trans hx228_0); injection ea_ with ea_ en_ ec_; subst ea_; subst ec_; clear en_; have p229 : 0 ≤ (1 : Int) := (by omega); have q229 : 1 < ((rd_L15 t200 2).length : Int) := dT; obtain ⟨ad229, e229, hx229_0⟩ := Kd.at_int (by repeat (first | (with_reducible exact HR228_0.out) | (with_reducible refine Kd.C_alloc ?_ _) | (with_reducible refine Kd.C_drewN ?_ _) | (with_reducible refine Kd.C_drew ?_) | exact HR228_0.out)) 1 p229 q229; cases e229
                       (try simp only [show (1 : Int).toNat = 1 from rfl, Nat.reduceMul, Nat.reduceEqDiff, Go.Addr.add, ↓reduceIte] at hx229_0)
                       have qi229 : (1 < (rd_L15 t200 2).length) = True := eq_true (by omega)
                       (try rw [show ((1 : Int)).toNat = 1 from rfl] at hx229_0)
                       replace p229 := eq_true p229; replace q229 := eq_true q229; obtain ⟨Ao52, co52, eo52⟩ := Kd.R_slice HO211.out; subst eo52; have p230 : 0 ≤ (0 : Int) := (by omega); have q230 : 0 < (t209.length : Int) := dT; obtain ⟨ad230, e230, hx230_0⟩ := Kd.at_int (Kd.R_reads' HO211.out).2.2 0 p230 q230; cases e230; have qi230 : (0 < t209.length) = True := eq_true (by omega)
                       (try rw [show ((0 : Int)).toNat = 0 from rfl] at hx230_0)
                       (try rw [Addr.add_zero'] at hx230_0)
                       replace p230 := eq_true p230; replace q230 := eq_true q230; have p231 : 0 ≤ (1 : Int) := (by omega); have q231 : 1 < (t209.length : Int) := dT; obtain ⟨ad231, e231, hx231_0⟩ := Kd.at_int (Kd.R_reads' HO211.out).2.2 1 p231 q231; obtain rfl : ad230 = ad231 := (by injection e231)
                       (try simp only [show (1 : Int).toNat = 1 from rfl, Nat.reduceMul, Nat.reduceEqDiff, Go.Addr.add, ↓reduceIte] at hx231_0)
                       have qi231 : (1 < t209.length) = True := eq_true (by omega)
                       (try rw [show ((1 : Int)).toNat = 1 from rfl] at hx231_0)
                       replace p231 := eq_true p231; replace q231 := eq_true q231; have p232 : 0 ≤ (2 : Int) := (by omega); have q232 : 2 < (t209.length : Int) := dT; obtain ⟨ad232, e232, hx232_0⟩ := Kd.at_int (Kd.R_reads' HO211.out).2.2 2 p232 q232; obtain rfl : ad230 = ad232 := (by injection e232)
                       (try simp only [show (2 : Int).toNat = 2 from rfl, Nat.reduceMul, Nat.reduceEqDiff, Go.Addr.add, ↓reduceIte] at hx232_0)
                       have qi232 : (2 < t209.length) = True := eq_true (by omega)
                       (try rw [show ((2 : Int)).toNat = 2 from rfl] at hx232_0)
                       replace p232 := eq_true p232; replace q232 := eq_true q232
                       go_wp2
                       go_meet
                       case rel => exact ⟨_, ((t219 != 15)), eT, H', ⟨by first | omega | exact Nat.le_refl _⟩, ⟨by refine oN ?_; exact Kd.N_mono HO185.out (fun _ hk => ⟨hk.1.1.1.1.1.1.1.1.1.1.2, ⟨hk.1.1.1.1.1.1.1.1.1.2, ⟨hk.1.1.1.1.1.1.1.1.2, ⟨hk.1.1.1.1.1.1.1.2, hk.1.1.1.1.1.1.2⟩⟩⟩⟩)⟩, ⟨oR HO189.out⟩, ⟨oR HO192.out⟩, ⟨by refine oN ?_; exact Kd.N_mono HO195.out (fun _ hk => ⟨hk.1.1.1.1.1.1.1.2.2.2, ⟨hk.1.1.1.1.1.1.1.1, ⟨hk.1.1.1.1.1.1.1.2.1, ⟨hk.1.1.1.1.1.1.1.2.2.1, hk.1.1.1.1.1.1.2⟩⟩⟩⟩)⟩, ⟨by refine oN ?_; exact Kd.N_mono HO198.out (fun _ hk => ⟨hk.1.1.1.1.1.1.1.2.2.2, ⟨hk.1.1.1.1.1.1.1.1, ⟨hk.1.1.1.1.1.1.1.2.1, ⟨hk.1.1.1.1.1.1.1.2.2.1, hk.1.1.1.1.1.1.2⟩⟩⟩⟩)⟩, ⟨kB BK199.out⟩, ⟨bB1 HB.out GE199.out⟩⟩
                      ·rw [if_neg c50] at H
                       exact absurd (H.trans (congrArg some hrT_.out)) (l40_lives.j0_no _ _ _ _ _ _ _)
                     ·rw [if_neg c49] at H
                      exact absurd (H.trans (congrArg some hrT_.out)) (l40_lives.j0_no _ _ _ _ _ _ _)
                    ·rw [if_neg c48] at H
                     exact absurd H (by simp)
                   ·rw [if_neg c47] at H
                    exact absurd (H.trans (congrArg some hrT_.out)) (l40_lives.j0_no _ _ _ _ _ _ _)
                  ·rw [if_neg c46] at H
                   exact absurd H (by simp)
                 ·rw [if_neg c45] at H
                  exact absurd (H.trans (congrArg some hrT_.out)) (l40_lives.j0_no _ _ _ _ _ _ _)
                ·rw [if_neg c44] at H
                 exact absurd H (by simp)
               ·rw [if_neg c43] at H
                exact absurd (H.trans (congrArg some hrT_.out)) (l40_lives.j0_no _ _ _ _ _ _ _)
              ·rw [if_neg c42] at H
               exact absurd (H.trans (congrArg some hrT_.out)) (l40_lives.j0_no _ _ _ _ _ _ _)
             ·rw [if_neg c41] at H
              exact absurd H (by simp)
            ·rw [if_neg c40] at H
             exact absurd (H.trans (congrArg some hrT_.out)) (l40_lives.j0_no _ _ _ _ _ _ _)
           ·rw [if_neg c39] at H
            exact absurd H (by simp)
          ·rw [if_neg c38] at H
           exact absurd (H.trans (congrArg some hrT_.out)) (l40_lives.j0_no _ _ _ _ _ _ _)
         ·rw [if_neg c37] at H
          exact absurd H (by simp)
        ·rw [if_neg c36] at H
         exact absurd (H.trans (congrArg some hrT_.out)) (l40_lives.j0_no _ _ _ _ _ _ _)
       ·rw [if_neg c35] at H
        exact absurd H (by simp)
      ·rw [if_neg c34] at H
       exact absurd (H.trans (congrArg some hrT_.out)) (l40_lives.j0_no _ _ _ _ _ _ _)
     ·rw [if_neg c33] at H
      exact absurd H (by simp)
    ·rw [if_neg c32] at H
     exact absurd (H.trans (congrArg some hrT_.out)) (l40_lives.j0_no _ _ _ _ _ _ _)
   ·rw [if_neg c31] at H
    exact absurd H (by simp)
  ·rw [if_neg c30] at H
   exact absurd (H.trans (congrArg some hrT_.out)) (l40_lives.j0_no _ _ _ _ _ _ _)
 case rest =>
  clear HC6
  try clear hx2
  try clear qi2
  try clear hx22
  try clear qi22
  try clear hx220_0
  try clear hx221_0
  try clear hx222_0
  try clear hx223_0
  try clear hx224_0
  try clear hx225_0
  try clear hx226_0
  try clear hx227_0
  try clear hx228_0
  try clear hx229_0
  obtain ⟨kq, x109_5, rfl, HA, HJ5, HO_1, HO_200001, HO_200002, HO_200003, HO_200004, BK199, HB⟩ := hcut
  cases kq with
  | zero => exact absurd HA.out (by simp [l40_lives.j0])
  | succ kj5 =>
   have H := HA.out; clear HA
   simp only [l40_lives.j0] at H
   by_cases c70 : x109_5 = true
   ·subst c70
    have H1 : (some false) = some r := by rw [if_pos rfl] at H; exact H
    clear H; have H := H1; clear H1
    exact absurd ((Option.some.inj H).trans hrT_.out) Bool.false_ne_true
   ·replace c70 := Bool.eq_false_iff.mpr c70
    subst c70
    have H1 : ((binding_Check.f t183 t186 t187 t190 t193 t196).bind fun t233 => (if t233 = 0 then ((binding_Check.f ([] : List (S51)) t186 t187 t190 t193 t196).bind fun t234 => (if t234 = 2 then ((binding_CheckTerms.f kj5 t183 t186 t187 t190 t193 t196 0 (([(⟨0, 5, 0⟩ : S54)] : List (S54)))).bind fun t238 => (l40_lives.j1 kj5 t183 (t238 != 9) t186 t187 t190 t193 t196)) else (l40_lives.j1 kj5 t183 true t186 t187 t190 t193 t196))) else (l40_lives.j1 kj5 t183 true t186 t187 t190 t193 t196))) = some r := by rw [if_neg (show ¬ (false = true) by decide)] at H; exact H
    clear H; have H := H1; clear H1; have HC71 := aM H; clear H
    go_upto_region 7 with (fail)
    go_cut [126] (fun v126 wc => ∃ (kq : Nat) (x126_70 : Bool), v126 = .bool x126_70 ∧ Aside0 (l40_lives.j1 kq t183 x126_70 t186 t187 t190 t193 t196 = some r) ∧ Aside0 (kq ≤ kj5) ∧ Aside0 (Kd.N k51 51 wc w.heap.size (fun k_ => some k_ ≠ ((.slice Ao11 t187.length co11) : Value).ownBlock ∧ some k_ ≠ ((.slice Ao12 t190.length co12) : Value).ownBlock ∧ some k_ ≠ ((.slice Ao13 t193.length co13) : Value).ownBlock ∧ some k_ ≠ ((.slice Ao14 t196.length co14) : Value).ownBlock ∧ k_ ≠ gb199) (.slice Ao15 t183.length co15) t183) ∧ Aside0 (Kd.R k48 48 wc w.heap.size (fun _ => True) (.slice Ao11 t187.length co11) t187) ∧ Aside0 (Kd.R k62 62 wc w.heap.size (fun _ => True) (.slice Ao12 t190.length co12) t190) ∧ Aside0 (Kd.N k111 111 wc w.heap.size (fun k_ => some k_ ≠ ((.slice Ao15 t183.length co15) : Value).ownBlock ∧ some k_ ≠ ((.slice Ao11 t187.length co11) : Value).ownBlock ∧ some k_ ≠ ((.slice Ao12 t190.length co12) : Value).ownBlock ∧ some k_ ≠ ((.slice Ao14 t196.length co14) : Value).ownBlock ∧ k_ ≠ gb199) (.slice Ao13 t193.length co13) t193) ∧ Aside0 (Kd.N k111 111 wc w.heap.size (fun k_ => some k_ ≠ ((.slice Ao15 t183.length co15) : Value).ownBlock ∧ some k_ ≠ ((.slice Ao11 t187.length co11) : Value).ownBlock ∧ some k_ ≠ ((.slice Ao12 t190.length co12) : Value).ownBlock ∧ some k_ ≠ ((.slice Ao13 t193.length co13) : Value).ownBlock ∧ k_ ≠ gb199) (.slice Ao14 t196.length co14) t196) ∧ Aside0 (wc.heap[gb199]? = some (.cells #[.string t186, (.slice Ao11 t187.length co11), (.slice Ao12 t190.length co12), (.slice Ao13 t193.length co13), (.slice Ao14 t196.length co14)] 27 (0, 0))) ∧ Aside0 (Below w.heap.size w wc))
    case first =>
     have H := HC71.out; clear HC71; replace H := Option.bind_eq_some_iff.mp H; obtain ⟨t233, A720, H⟩ := H
     replace H : (if t233 = 0 then ((binding_Check.f ([] : List (S51)) t186 t187 t190 t193 t196).bind fun t234 => (if t234 = 2 then ((binding_CheckTerms.f kj5 t183 t186 t187 t190 t193 t196 0 (([(⟨0, 5, 0⟩ : S54)] : List (S54)))).bind fun t238 => (l40_lives.j1 kj5 t183 (t238 != 9) t186 t187 t190 t193 t196)) else (l40_lives.j1 kj5 t183 true t186 t187 t190 t193 t196))) else (l40_lives.j1 kj5 t183 true t186 t187 t190 t193 t196)) = some r := H
     have A72 := aM A720; clear A720
     by_cases c73 : t233 = 0
     ·rw [if_pos c73] at H
      have c73b0 : (t233 == 0) = true := beq_iff_eq.mpr c73; have c73b1 : (t233 != 0) = false := bne_eq_false_iff_eq.mpr c73; clear c73
      (first | rw [c73b0] | (simp only [i64_w, i32_w]; rw [c73b0]) | skip)
      replace H := Option.bind_eq_some_iff.mp H; obtain ⟨t234, A740, H⟩ := H
      replace H : (if t234 = 2 then ((binding_CheckTerms.f kj5 t183 t186 t187 t190 t193 t196 0 (([(⟨0, 5, 0⟩ : S54)] : List (S54)))).bind fun t238 => (l40_lives.j1 kj5 t183 (t238 != 9) t186 t187 t190 t193 t196)) else (l40_lives.j1 kj5 t183 true t186 t187 t190 t193 t196)) = some r := H
      have A74 := aM A740; clear A740
      by_cases c75 : t234 = 2
      ·rw [if_pos c75] at H
       have c75b0 : (t234 == 2) = true := beq_iff_eq.mpr c75; have c75b1 : (t234 != 2) = false := bne_eq_false_iff_eq.mpr c75; clear c75
       obtain ⟨y235, hy235⟩ : ∃ y_ : List (S54), y_ = (([(⟨0, 5, 0⟩ : S54)] : List (S54))) := ⟨_, rfl⟩
       replace H : ((binding_CheckTerms.f kj5 t183 t186 t187 t190 t193 t196 0 y235).bind fun t238 => (l40_lives.j1 kj5 t183 (t238 != 9) t186 t187 t190 t193 t196)) = some r := by first | (rw [hy235]; with_reducible exact H) | (have H2_ := (Option.bind_some _ _).symm.trans H; rw [hy235]; with_reducible exact H2_) | (have H2_ := (Option.bind_some _ _).symm.trans H; with_reducible exact H2_) | with_reducible exact H | (rw [hy235]; exact H) | exact H
       have Ny235 := aM hy235; clear hy235; replace H := Option.bind_eq_some_iff.mp H; obtain ⟨t238, A760, H⟩ := H
       replace H : (l40_lives.j1 kj5 t183 (t238 != 9) t186 t187 t190 t193 t196) = some r := H
       have A76 := aM A760; clear A760
       have H' := aM H
       clear H
       have hcz77_0 : wc.cell? ⟨gb199, 0, none⟩ = some (.string t186) := (blk_cell BK199.out 0).trans rfl
       have hcz77_1 : wc.cell? ⟨gb199, 1, none⟩ = some (.slice Ao11 t187.length co11) := (blk_cell BK199.out 1).trans rfl
       have hcz77_2 : wc.cell? ⟨gb199, 2, none⟩ = some (.slice Ao12 t190.length co12) := (blk_cell BK199.out 2).trans rfl
       have hcz77_3 : wc.cell? ⟨gb199, 3, none⟩ = some (.slice Ao13 t193.length co13) := (blk_cell BK199.out 3).trans rfl
       have hcz77_4 : wc.cell? ⟨gb199, 4, none⟩ = some (.slice Ao14 t196.length co14) := (blk_cell BK199.out 4).trans rfl
       have hfz77_0 := blk_frozen BK199.out 0; have hfz77_1 := blk_frozen BK199.out 1; have hfz77_2 := blk_frozen BK199.out 2; have hfz77_3 := blk_frozen BK199.out 3; have hfz77_4 := blk_frozen BK199.out 4
       go_wp2_with (first | ((with_reducible refine gate_callee (f := 11) rfl ?_); refine goesL_ (some 112) rfl rfl Try.func11 (by kernel_rfl) rfl #[.slice Ao15 t183.length co15, .agg #[.string t186, .slice Ao11 t187.length co11, .slice Ao12 t190.length co12, .slice Ao13 t193.length co13, .slice Ao14 t196.length co14]] rfl mT ?_; (with_reducible refine (binding_Check.calls _ _ t183 t186 _ _ t187 _ _ t190 _ _ t193 _ _ t196 t233 _ ?side1 ?side2 ?side3 ?side4 ?side5 ?side6 ?side7 ?side8 ?side9 ?side10 A72.out).mono ?_); (case side1 => repeat (first | exact (Kd.N_reads' HO_1.out).2.2 | (with_reducible refine Kd.C_alloc ?_ _) | (with_reducible refine Kd.C_drewN ?_ _) | (with_reducible refine Kd.C_drew ?_))); (case side2 => exact (Kd.N_reads' HO_1.out).2.1); (case side3 => repeat (first | exact (Kd.R_reads' HO_200001.out).2.2 | (with_reducible refine Kd.C_alloc ?_ _) | (with_reducible refine Kd.C_drewN ?_ _) | (with_reducible refine Kd.C_drew ?_))); (case side4 => exact (Kd.R_reads' HO_200001.out).2.1); (case side5 => repeat (first | exact (Kd.R_reads' HO_200002.out).2.2 | (with_reducible refine Kd.C_alloc ?_ _) | (with_reducible refine Kd.C_drewN ?_ _) | (with_reducible refine Kd.C_drew ?_))); (case side6 => exact (Kd.R_reads' HO_200002.out).2.1); (case side7 => repeat (first | exact (Kd.N_reads' HO_200003.out).2.2 | (with_reducible refine Kd.C_alloc ?_ _) | (with_reducible refine Kd.C_drewN ?_ _) | (with_reducible refine Kd.C_drew ?_))); (case side8 => exact (Kd.N_reads' HO_200003.out).2.1); (case side9 => repeat (first | exact (Kd.N_reads' HO_200004.out).2.2 | (with_reducible refine Kd.C_alloc ?_ _) | (with_reducible refine Kd.C_drewN ?_ _) | (with_reducible refine Kd.C_drew ?_))); (case side10 => exact (Kd.N_reads' HO_200004.out).2.1); rintro e w78 ⟨rfl, hb⟩; refine ⟨_, rfl, ?_⟩; have n0_ := aM (Kd.N_below (oN HO_1.out) hb); have n1_ := aM (Kd.R_below (oR HO_200001.out) hb); have n2_ := aM (Kd.R_below (oR HO_200002.out) hb); have n3_ := aM (Kd.N_below (oN HO_200003.out) hb); have n4_ := aM (Kd.N_below (oN HO_200004.out) hb); have n5_ := aM (kW BK199.out hb); have n6_ := aM (below_step (bB1 HB.out GE199.out) hb); clear HO_1; clear HO_200001; clear HO_200002; clear HO_200003; clear HO_200004; clear BK199; clear HB; have HO_1 := n0_; have HO_200001 := n1_; have HO_200002 := n2_; have HO_200003 := n3_; have HO_200004 := n4_; have BK199 := n5_; have HB := n6_; clear n0_ n1_ n2_ n3_ n4_ n5_ n6_; (try clear hb); (try clear hb2); (try clear hk); (try clear hi); have hcz79_0 : w78.cell? ⟨gb199, 0, none⟩ = some (.string t186) := (blk_cell BK199.out 0).trans rfl; have hcz79_1 : w78.cell? ⟨gb199, 1, none⟩ = some (.slice Ao11 t187.length co11) := (blk_cell BK199.out 1).trans rfl; have hcz79_2 : w78.cell? ⟨gb199, 2, none⟩ = some (.slice Ao12 t190.length co12) := (blk_cell BK199.out 2).trans rfl; have hcz79_3 : w78.cell? ⟨gb199, 3, none⟩ = some (.slice Ao13 t193.length co13) := (blk_cell BK199.out 3).trans rfl; have hcz79_4 : w78.cell? ⟨gb199, 4, none⟩ = some (.slice Ao14 t196.length co14) := (blk_cell BK199.out 4).trans rfl; have hfz79_0 := blk_frozen BK199.out 0; have hfz79_1 := blk_frozen BK199.out 1; have hfz79_2 := blk_frozen BK199.out 2; have hfz79_3 := blk_frozen BK199.out 3; have hfz79_4 := blk_frozen BK199.out 4) | (go_at_call 11; (refine (binding_Check.calls _ _ ([] : List (S51)) t186 _ _ t187 _ _ t190 _ _ t193 _ _ t196 t234 _ ?side1 ?side2 ?side3 ?side4 ?side5 ?side6 ?side7 ?side8 ?side9 ?side10 A74.out).mono ?_); (case side1 => exact Kd.C_nil _ _); (case side2 => exact Nat.le_refl _); (case side3 => repeat (first | exact (Kd.R_reads' HO_200001.out).2.2 | (with_reducible refine Kd.C_alloc ?_ _) | (with_reducible refine Kd.C_drewN ?_ _) | (with_reducible refine Kd.C_drew ?_))); (case side4 => exact (Kd.R_reads' HO_200001.out).2.1); (case side5 => repeat (first | exact (Kd.R_reads' HO_200002.out).2.2 | (with_reducible refine Kd.C_alloc ?_ _) | (with_reducible refine Kd.C_drewN ?_ _) | (with_reducible refine Kd.C_drew ?_))); (case side6 => exact (Kd.R_reads' HO_200002.out).2.1); (case side7 => repeat (first | exact (Kd.N_reads' HO_200003.out).2.2 | (with_reducible refine Kd.C_alloc ?_ _) | (with_reducible refine Kd.C_drewN ?_ _) | (with_reducible refine Kd.C_drew ?_))); (case side8 => exact (Kd.N_reads' HO_200003.out).2.1); (case side9 => repeat (first | exact (Kd.N_reads' HO_200004.out).2.2 | (with_reducible refine Kd.C_alloc ?_ _) | (with_reducible refine Kd.C_drewN ?_ _) | (with_reducible refine Kd.C_drew ?_))); (case side10 => exact (Kd.N_reads' HO_200004.out).2.1); rintro e w80 ⟨rfl, hb⟩; have n0_ := aM (Kd.N_below (oN HO_1.out) hb); have n1_ := aM (Kd.R_below (oR HO_200001.out) hb); have n2_ := aM (Kd.R_below (oR HO_200002.out) hb); have n3_ := aM (Kd.N_below (oN HO_200003.out) hb); have n4_ := aM (Kd.N_below (oN HO_200004.out) hb); have n5_ := aM (kW BK199.out hb); have n6_ := aM (below_step (bB1 HB.out GE199.out) hb); clear HO_1; clear HO_200001; clear HO_200002; clear HO_200003; clear HO_200004; clear BK199; clear HB; have HO_1 := n0_; have HO_200001 := n1_; have HO_200002 := n2_; have HO_200003 := n3_; have HO_200004 := n4_; have BK199 := n5_; have HB := n6_; clear n0_ n1_ n2_ n3_ n4_ n5_ n6_; (try clear hb); (try clear hb2); (try clear hk); (try clear hi); have hcz81_0 : w80.cell? ⟨gb199, 0, none⟩ = some (.string t186) := (blk_cell BK199.out 0).trans rfl; have hcz81_1 : w80.cell? ⟨gb199, 1, none⟩ = some (.slice Ao11 t187.length co11) := (blk_cell BK199.out 1).trans rfl; have hcz81_2 : w80.cell? ⟨gb199, 2, none⟩ = some (.slice Ao12 t190.length co12) := (blk_cell BK199.out 2).trans rfl; have hcz81_3 : w80.cell? ⟨gb199, 3, none⟩ = some (.slice Ao13 t193.length co13) := (blk_cell BK199.out 3).trans rfl; have hcz81_4 : w80.cell? ⟨gb199, 4, none⟩ = some (.slice Ao14 t196.length co14) := (blk_cell BK199.out 4).trans rfl; have hfz81_0 := blk_frozen BK199.out 0; have hfz81_1 := blk_frozen BK199.out 1; have hfz81_2 := blk_frozen BK199.out 2; have hfz81_3 := blk_frozen BK199.out 3; have hfz81_4 := blk_frozen BK199.out 4) | ((with_reducible refine gate_dst (N := 123) rfl ?_); (try (refine gate_guard (by rfl) ?_; dsimp only)); refine Kd.R_lit k54 _ 54 ?hg (N := 123) ?hd (xs := ([(⟨0, 5, 0⟩ : S54)] : List (S54))) (inner := [.int .i64 0, .int .i64 5, .int .i64 0]) (ok := fun _ => True) (okp := fun _ => True) ?hr ?hp (fun _ hk => hk) trivial (Below.refl _ _) (Nat.le_refl _) (by simp) ?_; (case hd => rfl); (case hg => rfl); (case hr => first | (go_simp; done) | (go_simp; rfl)); (case hp => exact (Reps.c3 (show Kd.M k54 _ _ _ (⟨0, 5, 0⟩ : S54) [.int .i64 0, .int .i64 5, .int .i64 0] from (k54_mkM _ _ _ (⟨0, 5, 0⟩ : S54) )) (Reps.none _ _))); intro v236 w82 ho83 hb hg_ hnew_; clear hg_ hnew_; (first | rw [← Ny235.out] at ho83 | (simp only [Int.reduceToNat] at ho83; rw [← Ny235.out] at ho83)); have n0_ := aM (Kd.N_elder' (oN HO_1.out) (Kd.R_base ho83) hb); have n1_ := aM (Kd.R_below (oR HO_200001.out) hb); have n2_ := aM (Kd.R_below (oR HO_200002.out) hb); have n3_ := aM (Kd.N_elder' (oN HO_200003.out) (Kd.R_base ho83) hb); have n4_ := aM (Kd.N_elder' (oN HO_200004.out) (Kd.R_base ho83) hb); have n5_ := aM (Kd.R_lower ho83 (below_size (bB1 HB.out GE199.out))); have n6_ := aM (kW BK199.out hb); have n7_ := aM (below_step (bB1 HB.out GE199.out) hb); clear HO_1; clear HO_200001; clear HO_200002; clear HO_200003; clear HO_200004; clear BK199; clear HB; have HO_1 := n0_; have HO_200001 := n1_; have HO_200002 := n2_; have HO_200003 := n3_; have HO_200004 := n4_; have HO237 := n5_; have BK199 := n6_; have HB := n7_; clear n0_ n1_ n2_ n3_ n4_ n5_ n6_ n7_; clear hb ho83; obtain ⟨Ao84, co84, eo84⟩ := Kd.R_slice HO237.out; subst eo84) | (go_at_call 13; (with_reducible refine (binding_CheckTerms.calls kj5 _ _ t183 t186 _ _ t187 _ _ t190 _ _ t193 _ _ t196 0 _ _ y235 t238 _ ?side1 ?side2 ?side3 ?side4 ?side5 ?side6 ?side7 ?side8 ?side9 ?side10 ?side11 ?side12 A76.out).mono ?_); (case side1 => repeat (first | exact (Kd.N_reads' HO_1.out).2.2 | (with_reducible refine Kd.C_alloc ?_ _) | (with_reducible refine Kd.C_drewN ?_ _) | (with_reducible refine Kd.C_drew ?_))); (case side2 => exact (Kd.N_reads' HO_1.out).2.1); (case side3 => repeat (first | exact (Kd.R_reads' HO_200001.out).2.2 | (with_reducible refine Kd.C_alloc ?_ _) | (with_reducible refine Kd.C_drewN ?_ _) | (with_reducible refine Kd.C_drew ?_))); (case side4 => exact (Kd.R_reads' HO_200001.out).2.1); (case side5 => repeat (first | exact (Kd.R_reads' HO_200002.out).2.2 | (with_reducible refine Kd.C_alloc ?_ _) | (with_reducible refine Kd.C_drewN ?_ _) | (with_reducible refine Kd.C_drew ?_))); (case side6 => exact (Kd.R_reads' HO_200002.out).2.1); (case side7 => repeat (first | exact (Kd.N_reads' HO_200003.out).2.2 | (with_reducible refine Kd.C_alloc ?_ _) | (with_reducible refine Kd.C_drewN ?_ _) | (with_reducible refine Kd.C_drew ?_))); (case side8 => exact (Kd.N_reads' HO_200003.out).2.1); (case side9 => repeat (first | exact (Kd.N_reads' HO_200004.out).2.2 | (with_reducible refine Kd.C_alloc ?_ _) | (with_reducible refine Kd.C_drewN ?_ _) | (with_reducible refine Kd.C_drew ?_))); (case side10 => exact (Kd.N_reads' HO_200004.out).2.1); (case side11 => repeat (first | exact (Kd.R_reads' HO237.out).2.2 | (with_reducible refine Kd.C_alloc ?_ _) | (with_reducible refine Kd.C_drewN ?_ _) | (with_reducible refine Kd.C_drew ?_))); (case side12 => exact (Kd.R_reads' HO237.out).2.1); rintro e w85 ⟨rfl, hb⟩; have n0_ := aM (Kd.N_below (oN HO_1.out) hb); have n1_ := aM (Kd.R_below (oR HO_200001.out) hb); have n2_ := aM (Kd.R_below (oR HO_200002.out) hb); have n3_ := aM (Kd.N_below (oN HO_200003.out) hb); have n4_ := aM (Kd.N_below (oN HO_200004.out) hb); have n5_ := aM (Kd.R_below (oR HO237.out) hb); have n6_ := aM (kW BK199.out hb); have n7_ := aM (below_step (bB1 HB.out GE199.out) hb); clear HO_1; clear HO_200001; clear HO_200002; clear HO_200003; clear HO_200004; clear HO237; clear BK199; clear HB; have HO_1 := n0_; have HO_200001 := n1_; have HO_200002 := n2_; have HO_200003 := n3_; have HO_200004 := n4_; have HO237 := n5_; have BK199 := n6_; have HB := n7_; clear n0_ n1_ n2_ n3_ n4_ n5_ n6_ n7_; (try clear hb); (try clear hb2); (try clear hk); (try clear hi)))
       go_meet
       case rel => exact ⟨_, ((t238 != 9)), eT, H', ⟨by have := HJ5.out; first | omega | exact Nat.le_refl _⟩, ⟨by refine oN ?_; exact Kd.N_mono HO_1.out (fun _ hk => ⟨hk.1.1, ⟨hk.1.2.1, ⟨hk.1.2.2.1, ⟨hk.1.2.2.2.1, hk.1.2.2.2.2⟩⟩⟩⟩)⟩, ⟨oR HO_200001.out⟩, ⟨oR HO_200002.out⟩, ⟨by refine oN ?_; exact Kd.N_mono HO_200003.out (fun _ hk => ⟨hk.1.1, ⟨hk.1.2.1, ⟨hk.1.2.2.1, ⟨hk.1.2.2.2.1, hk.1.2.2.2.2⟩⟩⟩⟩)⟩, ⟨by refine oN ?_; exact Kd.N_mono HO_200004.out (fun _ hk => ⟨hk.1.1, ⟨hk.1.2.1, ⟨hk.1.2.2.1, ⟨hk.1.2.2.2.1, hk.1.2.2.2.2⟩⟩⟩⟩)⟩, ⟨kB BK199.out⟩, ⟨bB1 HB.out GE199.out⟩⟩
      ·rw [if_neg c75] at H
       exact absurd (H.trans (congrArg some hrT_.out)) (l40_lives.j1_no _ _ _ _ _ _ _)
     ·rw [if_neg c73] at H
      exact absurd (H.trans (congrArg some hrT_.out)) (l40_lives.j1_no _ _ _ _ _ _ _)
    case rest =>
     clear HC71
     try clear hx2
     try clear qi2
     try clear hx22
     try clear qi22
     try clear hx220_0
     try clear hx221_0
     try clear hx222_0
     try clear hx223_0
     try clear hx224_0
     try clear hx225_0
     try clear hx226_0
     try clear hx227_0
     try clear hx228_0
     try clear hx229_0
     obtain ⟨kq, x126_70, rfl, HA, HJ70, HO_1, HO_200001, HO_200002, HO_200003, HO_200004, BK199, HB⟩ := hcut
     cases kq with
     | zero => exact absurd HA.out (by simp [l40_lives.j1])
     | succ kj70 =>
      have H := HA.out; clear HA
      simp only [l40_lives.j1] at H
      by_cases c92 : x126_70 = true
      ·subst c92
       have H1 : (some false) = some r := by rw [if_pos rfl] at H; exact H
       clear H; have H := H1; clear H1
       exact absurd ((Option.some.inj H).trans hrT_.out) Bool.false_ne_true
      ·replace c92 := Bool.eq_false_iff.mpr c92
       subst c92
       have H1 : ((binding_Holds.f kj70 t183 t186 t187 t190 t193 t196 (([0, 1] : List Int))).bind fun t242 => (if t242 = true then ((binding_Holds.f kj70 t183 t186 t187 t190 t193 t196 (([1, 1] : List Int))).bind fun t246 => (if t246 = true then (some false) else ((binding_Text.f kj70 t183 t186 t187 t190 t193 t196 (([0, 2] : List Int))).bind fun t250 => (some (t250.toList == ([120, 61, 97, 44, 121, 61, 99] : List UInt8)))))) else (some false))) = some r := by rw [if_neg (show ¬ (false = true) by decide)] at H; exact H
       clear H; have H := H1; clear H1
       obtain ⟨y239, hy239⟩ : ∃ y_ : List Int, y_ = (([0, 1] : List Int)) := ⟨_, rfl⟩
       replace H : ((binding_Holds.f kj70 t183 t186 t187 t190 t193 t196 y239).bind fun t242 => (if t242 = true then ((binding_Holds.f kj70 t183 t186 t187 t190 t193 t196 (([1, 1] : List Int))).bind fun t246 => (if t246 = true then (some false) else ((binding_Text.f kj70 t183 t186 t187 t190 t193 t196 (([0, 2] : List Int))).bind fun t250 => (some (t250.toList == ([120, 61, 97, 44, 121, 61, 99] : List UInt8)))))) else (some false))) = some r := by first | (rw [hy239]; with_reducible exact H) | (have H2_ := (Option.bind_some _ _).symm.trans H; rw [hy239]; with_reducible exact H2_) | (have H2_ := (Option.bind_some _ _).symm.trans H; with_reducible exact H2_) | with_reducible exact H | (rw [hy239]; exact H) | exact H
       have Ny239 := aM hy239; clear hy239; replace H := Option.bind_eq_some_iff.mp H; obtain ⟨t242, A930, H⟩ := H
       replace H : (if t242 = true then ((binding_Holds.f kj70 t183 t186 t187 t190 t193 t196 (([1, 1] : List Int))).bind fun t246 => (if t246 = true then (some false) else ((binding_Text.f kj70 t183 t186 t187 t190 t193 t196 (([0, 2] : List Int))).bind fun t250 => (some (t250.toList == ([120, 61, 97, 44, 121, 61, 99] : List UInt8)))))) else (some false)) = some r := H
       have A93 := aM A930; clear A930
       by_cases c94 : t242 = true
       ·subst c94
        have H1 : ((binding_Holds.f kj70 t183 t186 t187 t190 t193 t196 (([1, 1] : List Int))).bind fun t246 => (if t246 = true then (some false) else ((binding_Text.f kj70 t183 t186 t187 t190 t193 t196 (([0, 2] : List Int))).bind fun t250 => (some (t250.toList == ([120, 61, 97, 44, 121, 61, 99] : List UInt8)))))) = some r := by rw [if_pos rfl] at H; exact H
        clear H; have H := H1; clear H1
        obtain ⟨y243, hy243⟩ : ∃ y_ : List Int, y_ = (([1, 1] : List Int)) := ⟨_, rfl⟩
        replace H : ((binding_Holds.f kj70 t183 t186 t187 t190 t193 t196 y243).bind fun t246 => (if t246 = true then (some false) else ((binding_Text.f kj70 t183 t186 t187 t190 t193 t196 (([0, 2] : List Int))).bind fun t250 => (some (t250.toList == ([120, 61, 97, 44, 121, 61, 99] : List UInt8)))))) = some r := by first | (rw [hy243]; with_reducible exact H) | (have H2_ := (Option.bind_some _ _).symm.trans H; rw [hy243]; with_reducible exact H2_) | (have H2_ := (Option.bind_some _ _).symm.trans H; with_reducible exact H2_) | with_reducible exact H | (rw [hy243]; exact H) | exact H
        have Ny243 := aM hy243; clear hy243; replace H := Option.bind_eq_some_iff.mp H; obtain ⟨t246, A950, H⟩ := H
        replace H : (if t246 = true then (some false) else ((binding_Text.f kj70 t183 t186 t187 t190 t193 t196 (([0, 2] : List Int))).bind fun t250 => (some (t250.toList == ([120, 61, 97, 44, 121, 61, 99] : List UInt8))))) = some r := H
        have A95 := aM A950; clear A950
        by_cases c96 : t246 = true
        ·subst c96
         have H1 : (some false) = some r := by rw [if_pos rfl] at H; exact H
         clear H; have H := H1; clear H1
         exact absurd ((Option.some.inj H).trans hrT_.out) Bool.false_ne_true
        ·replace c96 := Bool.eq_false_iff.mpr c96
         subst c96
         have H1 : ((binding_Text.f kj70 t183 t186 t187 t190 t193 t196 (([0, 2] : List Int))).bind fun t250 => (some (t250.toList == ([120, 61, 97, 44, 121, 61, 99] : List UInt8)))) = some r := by rw [if_neg (show ¬ (false = true) by decide)] at H; exact H
         clear H; have H := H1; clear H1
         obtain ⟨y247, hy247⟩ : ∃ y_ : List Int, y_ = (([0, 2] : List Int)) := ⟨_, rfl⟩
         replace H : ((binding_Text.f kj70 t183 t186 t187 t190 t193 t196 y247).bind fun t250 => (some (t250.toList == ([120, 61, 97, 44, 121, 61, 99] : List UInt8)))) = some r := by first | (rw [hy247]; with_reducible exact H) | (have H2_ := (Option.bind_some _ _).symm.trans H; rw [hy247]; with_reducible exact H2_) | (have H2_ := (Option.bind_some _ _).symm.trans H; with_reducible exact H2_) | with_reducible exact H | (rw [hy247]; exact H) | exact H
         have Ny247 := aM hy247; clear hy247; replace H := Option.bind_eq_some_iff.mp H; obtain ⟨t250, A970, H⟩ := H
         replace H : (some (t250.toList == ([120, 61, 97, 44, 121, 61, 99] : List UInt8))) = some r := H
         have A97 := aM A970; clear A970
         obtain rfl := Option.some.inj H
         have hcz98_0 : wc.cell? ⟨gb199, 0, none⟩ = some (.string t186) := (blk_cell BK199.out 0).trans rfl
         have hcz98_1 : wc.cell? ⟨gb199, 1, none⟩ = some (.slice Ao11 t187.length co11) := (blk_cell BK199.out 1).trans rfl
         have hcz98_2 : wc.cell? ⟨gb199, 2, none⟩ = some (.slice Ao12 t190.length co12) := (blk_cell BK199.out 2).trans rfl
         have hcz98_3 : wc.cell? ⟨gb199, 3, none⟩ = some (.slice Ao13 t193.length co13) := (blk_cell BK199.out 3).trans rfl
         have hcz98_4 : wc.cell? ⟨gb199, 4, none⟩ = some (.slice Ao14 t196.length co14) := (blk_cell BK199.out 4).trans rfl
         have hfz98_0 := blk_frozen BK199.out 0; have hfz98_1 := blk_frozen BK199.out 1; have hfz98_2 := blk_frozen BK199.out 2; have hfz98_3 := blk_frozen BK199.out 3; have hfz98_4 := blk_frozen BK199.out 4
         go_wp2_with (first | ((with_reducible refine gate_dst (N := 129) rfl ?_); (try (refine gate_guard (by rfl) ?_; dsimp only)); refine Kd.R_lit (Kd.int .i64) _ 3 ?hg (N := 129) ?hd (xs := ([0, 1] : List Int)) (inner := [.int .i64 0, .int .i64 1]) (ok := fun _ => True) (okp := fun _ => True) ?hr ?hp (fun _ hk => hk) trivial (Below.refl _ _) (Nat.le_refl _) (by simp) ?_; (case hd => rfl); (case hg => rfl); (case hr => first | (go_simp; done) | (go_simp; rfl)); (case hp => exact (Reps.one (show Kd.M (Kd.int .i64) _ _ _ 0 [.int .i64 0] from rfl) (Reps.one (show Kd.M (Kd.int .i64) _ _ _ 1 [.int .i64 1] from rfl) (Reps.none _ _)))); intro v240 w99 ho100 hb hg_ hnew_; clear hg_ hnew_; (first | rw [← Ny239.out] at ho100 | (simp only [Int.reduceToNat] at ho100; rw [← Ny239.out] at ho100)); have n0_ := aM (Kd.N_elder' (oN HO_1.out) (Kd.R_base ho100) hb); have n1_ := aM (Kd.R_below (oR HO_200001.out) hb); have n2_ := aM (Kd.R_below (oR HO_200002.out) hb); have n3_ := aM (Kd.N_elder' (oN HO_200003.out) (Kd.R_base ho100) hb); have n4_ := aM (Kd.N_elder' (oN HO_200004.out) (Kd.R_base ho100) hb); have n5_ := aM (Kd.R_lower ho100 (below_size (bB1 HB.out GE199.out))); have n6_ := aM (kW BK199.out hb); have n7_ := aM (below_step (bB1 HB.out GE199.out) hb); clear HO_1; clear HO_200001; clear HO_200002; clear HO_200003; clear HO_200004; clear BK199; clear HB; have HO_1 := n0_; have HO_200001 := n1_; have HO_200002 := n2_; have HO_200003 := n3_; have HO_200004 := n4_; have HO241 := n5_; have BK199 := n6_; have HB := n7_; clear n0_ n1_ n2_ n3_ n4_ n5_ n6_ n7_; clear hb ho100; obtain ⟨Ao101, co101, eo101⟩ := Kd.R_slice HO241.out; subst eo101) | ((with_reducible refine gate_callee (f := 18) rfl ?_); refine goesL_ (some 130) rfl rfl Try.func18 (by kernel_rfl) rfl #[.slice Ao15 t183.length co15, .agg #[.string t186, .slice Ao11 t187.length co11, .slice Ao12 t190.length co12, .slice Ao13 t193.length co13, .slice Ao14 t196.length co14], .slice Ao101 y239.length co101] rfl mT ?_; (with_reducible refine (binding_Holds.calls kj70 _ _ t183 t186 _ _ t187 _ _ t190 _ _ t193 _ _ t196 _ _ y239 true _ ?side1 ?side2 ?side3 ?side4 ?side5 ?side6 ?side7 ?side8 ?side9 ?side10 ?side11 ?side12 A93.out).mono ?_); (case side1 => repeat (first | exact (Kd.N_reads' HO_1.out).2.2 | (with_reducible refine Kd.C_alloc ?_ _) | (with_reducible refine Kd.C_drewN ?_ _) | (with_reducible refine Kd.C_drew ?_))); (case side2 => exact (Kd.N_reads' HO_1.out).2.1); (case side3 => repeat (first | exact (Kd.R_reads' HO_200001.out).2.2 | (with_reducible refine Kd.C_alloc ?_ _) | (with_reducible refine Kd.C_drewN ?_ _) | (with_reducible refine Kd.C_drew ?_))); (case side4 => exact (Kd.R_reads' HO_200001.out).2.1); (case side5 => repeat (first | exact (Kd.R_reads' HO_200002.out).2.2 | (with_reducible refine Kd.C_alloc ?_ _) | (with_reducible refine Kd.C_drewN ?_ _) | (with_reducible refine Kd.C_drew ?_))); (case side6 => exact (Kd.R_reads' HO_200002.out).2.1); (case side7 => repeat (first | exact (Kd.N_reads' HO_200003.out).2.2 | (with_reducible refine Kd.C_alloc ?_ _) | (with_reducible refine Kd.C_drewN ?_ _) | (with_reducible refine Kd.C_drew ?_))); (case side8 => exact (Kd.N_reads' HO_200003.out).2.1); (case side9 => repeat (first | exact (Kd.N_reads' HO_200004.out).2.2 | (with_reducible refine Kd.C_alloc ?_ _) | (with_reducible refine Kd.C_drewN ?_ _) | (with_reducible refine Kd.C_drew ?_))); (case side10 => exact (Kd.N_reads' HO_200004.out).2.1); (case side11 => repeat (first | exact (Kd.R_reads' HO241.out).2.2 | (with_reducible refine Kd.C_alloc ?_ _) | (with_reducible refine Kd.C_drewN ?_ _) | (with_reducible refine Kd.C_drew ?_))); (case side12 => exact (Kd.R_reads' HO241.out).2.1); rintro e w102 ⟨rfl, hb⟩; refine ⟨_, rfl, ?_⟩; have n0_ := aM (Kd.N_below (oN HO_1.out) hb); have n1_ := aM (Kd.R_below (oR HO_200001.out) hb); have n2_ := aM (Kd.R_below (oR HO_200002.out) hb); have n3_ := aM (Kd.N_below (oN HO_200003.out) hb); have n4_ := aM (Kd.N_below (oN HO_200004.out) hb); have n5_ := aM (Kd.R_below (oR HO241.out) hb); have n6_ := aM (kW BK199.out hb); have n7_ := aM (below_step (bB1 HB.out GE199.out) hb); clear HO_1; clear HO_200001; clear HO_200002; clear HO_200003; clear HO_200004; clear HO241; clear BK199; clear HB; have HO_1 := n0_; have HO_200001 := n1_; have HO_200002 := n2_; have HO_200003 := n3_; have HO_200004 := n4_; have HO241 := n5_; have BK199 := n6_; have HB := n7_; clear n0_ n1_ n2_ n3_ n4_ n5_ n6_ n7_; (try clear hb); (try clear hb2); (try clear hk); (try clear hi); have hcz103_0 : w102.cell? ⟨gb199, 0, none⟩ = some (.string t186) := (blk_cell BK199.out 0).trans rfl; have hcz103_1 : w102.cell? ⟨gb199, 1, none⟩ = some (.slice Ao11 t187.length co11) := (blk_cell BK199.out 1).trans rfl; have hcz103_2 : w102.cell? ⟨gb199, 2, none⟩ = some (.slice Ao12 t190.length co12) := (blk_cell BK199.out 2).trans rfl; have hcz103_3 : w102.cell? ⟨gb199, 3, none⟩ = some (.slice Ao13 t193.length co13) := (blk_cell BK199.out 3).trans rfl; have hcz103_4 : w102.cell? ⟨gb199, 4, none⟩ = some (.slice Ao14 t196.length co14) := (blk_cell BK199.out 4).trans rfl; have hfz103_0 := blk_frozen BK199.out 0; have hfz103_1 := blk_frozen BK199.out 1; have hfz103_2 := blk_frozen BK199.out 2; have hfz103_3 := blk_frozen BK199.out 3; have hfz103_4 := blk_frozen BK199.out 4) | ((with_reducible refine gate_dst (N := 134) rfl ?_); (try (refine gate_guard (by rfl) ?_; dsimp only)); refine Kd.R_lit (Kd.int .i64) _ 3 ?hg (N := 134) ?hd (xs := ([1, 1] : List Int)) (inner := [.int .i64 1, .int .i64 1]) (ok := fun _ => True) (okp := fun _ => True) ?hr ?hp (fun _ hk => hk) trivial (Below.refl _ _) (Nat.le_refl _) (by simp) ?_; (case hd => rfl); (case hg => rfl); (case hr => first | (go_simp; done) | (go_simp; rfl)); (case hp => exact (Reps.one (show Kd.M (Kd.int .i64) _ _ _ 1 [.int .i64 1] from rfl) (Reps.one (show Kd.M (Kd.int .i64) _ _ _ 1 [.int .i64 1] from rfl) (Reps.none _ _)))); intro v244 w104 ho105 hb hg_ hnew_; clear hg_ hnew_; (first | rw [← Ny243.out] at ho105 | (simp only [Int.reduceToNat] at ho105; rw [← Ny243.out] at ho105)); have n0_ := aM (Kd.N_elder' (oN HO_1.out) (Kd.R_base ho105) hb); have n1_ := aM (Kd.R_below (oR HO_200001.out) hb); have n2_ := aM (Kd.R_below (oR HO_200002.out) hb); have n3_ := aM (Kd.N_elder' (oN HO_200003.out) (Kd.R_base ho105) hb); have n4_ := aM (Kd.N_elder' (oN HO_200004.out) (Kd.R_base ho105) hb); have n5_ := aM (Kd.R_elder' (oR HO241.out) (Kd.R_base ho105) hb); have n6_ := aM (Kd.R_lower (Kd.R_new' ho105 (Kd.R_lt (oR HO241.out))) (below_size (bB1 HB.out GE199.out))); have n7_ := aM (kW BK199.out hb); have n8_ := aM (below_step (bB1 HB.out GE199.out) hb); clear HO_1; clear HO_200001; clear HO_200002; clear HO_200003; clear HO_200004; clear HO241; clear BK199; clear HB; have HO_1 := n0_; have HO_200001 := n1_; have HO_200002 := n2_; have HO_200003 := n3_; have HO_200004 := n4_; have HO241 := n5_; have HO245 := n6_; have BK199 := n7_; have HB := n8_; clear n0_ n1_ n2_ n3_ n4_ n5_ n6_ n7_ n8_; clear hb ho105; obtain ⟨Ao106, co106, eo106⟩ := Kd.R_slice HO245.out; subst eo106) | (go_at_call 18; (with_reducible refine (binding_Holds.calls kj70 _ _ t183 t186 _ _ t187 _ _ t190 _ _ t193 _ _ t196 _ _ y243 false _ ?side1 ?side2 ?side3 ?side4 ?side5 ?side6 ?side7 ?side8 ?side9 ?side10 ?side11 ?side12 A95.out).mono ?_); (case side1 => repeat (first | exact (Kd.N_reads' HO_1.out).2.2 | (with_reducible refine Kd.C_alloc ?_ _) | (with_reducible refine Kd.C_drewN ?_ _) | (with_reducible refine Kd.C_drew ?_))); (case side2 => exact (Kd.N_reads' HO_1.out).2.1); (case side3 => repeat (first | exact (Kd.R_reads' HO_200001.out).2.2 | (with_reducible refine Kd.C_alloc ?_ _) | (with_reducible refine Kd.C_drewN ?_ _) | (with_reducible refine Kd.C_drew ?_))); (case side4 => exact (Kd.R_reads' HO_200001.out).2.1); (case side5 => repeat (first | exact (Kd.R_reads' HO_200002.out).2.2 | (with_reducible refine Kd.C_alloc ?_ _) | (with_reducible refine Kd.C_drewN ?_ _) | (with_reducible refine Kd.C_drew ?_))); (case side6 => exact (Kd.R_reads' HO_200002.out).2.1); (case side7 => repeat (first | exact (Kd.N_reads' HO_200003.out).2.2 | (with_reducible refine Kd.C_alloc ?_ _) | (with_reducible refine Kd.C_drewN ?_ _) | (with_reducible refine Kd.C_drew ?_))); (case side8 => exact (Kd.N_reads' HO_200003.out).2.1); (case side9 => repeat (first | exact (Kd.N_reads' HO_200004.out).2.2 | (with_reducible refine Kd.C_alloc ?_ _) | (with_reducible refine Kd.C_drewN ?_ _) | (with_reducible refine Kd.C_drew ?_))); (case side10 => exact (Kd.N_reads' HO_200004.out).2.1); (case side11 => repeat (first | exact (Kd.R_reads' HO245.out).2.2 | (with_reducible refine Kd.C_alloc ?_ _) | (with_reducible refine Kd.C_drewN ?_ _) | (with_reducible refine Kd.C_drew ?_))); (case side12 => exact (Kd.R_reads' HO245.out).2.1); rintro e w107 ⟨rfl, hb⟩; have n0_ := aM (Kd.N_below (oN HO_1.out) hb); have n1_ := aM (Kd.R_below (oR HO_200001.out) hb); have n2_ := aM (Kd.R_below (oR HO_200002.out) hb); have n3_ := aM (Kd.N_below (oN HO_200003.out) hb); have n4_ := aM (Kd.N_below (oN HO_200004.out) hb); have n5_ := aM (Kd.R_below (oR HO241.out) hb); have n6_ := aM (Kd.R_below (oR HO245.out) hb); have n7_ := aM (kW BK199.out hb); have n8_ := aM (below_step (bB1 HB.out GE199.out) hb); clear HO_1; clear HO_200001; clear HO_200002; clear HO_200003; clear HO_200004; clear HO241; clear HO245; clear BK199; clear HB; have HO_1 := n0_; have HO_200001 := n1_; have HO_200002 := n2_; have HO_200003 := n3_; have HO_200004 := n4_; have HO241 := n5_; have HO245 := n6_; have BK199 := n7_; have HB := n8_; clear n0_ n1_ n2_ n3_ n4_ n5_ n6_ n7_ n8_; (try clear hb); (try clear hb2); (try clear hk); (try clear hi); have hcz108_0 : w107.cell? ⟨gb199, 0, none⟩ = some (.string t186) := (blk_cell BK199.out 0).trans rfl; have hcz108_1 : w107.cell? ⟨gb199, 1, none⟩ = some (.slice Ao11 t187.length co11) := (blk_cell BK199.out 1).trans rfl; have hcz108_2 : w107.cell? ⟨gb199, 2, none⟩ = some (.slice Ao12 t190.length co12) := (blk_cell BK199.out 2).trans rfl; have hcz108_3 : w107.cell? ⟨gb199, 3, none⟩ = some (.slice Ao13 t193.length co13) := (blk_cell BK199.out 3).trans rfl; have hcz108_4 : w107.cell? ⟨gb199, 4, none⟩ = some (.slice Ao14 t196.length co14) := (blk_cell BK199.out 4).trans rfl; have hfz108_0 := blk_frozen BK199.out 0; have hfz108_1 := blk_frozen BK199.out 1; have hfz108_2 := blk_frozen BK199.out 2; have hfz108_3 := blk_frozen BK199.out 3; have hfz108_4 := blk_frozen BK199.out 4) | ((with_reducible refine gate_dst (N := 141) rfl ?_); (try (refine gate_guard (by rfl) ?_; dsimp only)); refine Kd.R_lit (Kd.int .i64) _ 3 ?hg (N := 141) ?hd (xs := ([0, 2] : List Int)) (inner := [.int .i64 0, .int .i64 2]) (ok := fun _ => True) (okp := fun _ => True) ?hr ?hp (fun _ hk => hk) trivial (Below.refl _ _) (Nat.le_refl _) (by simp) ?_; (case hd => rfl); (case hg => rfl); (case hr => first | (go_simp; done) | (go_simp; rfl)); (case hp => exact (Reps.one (show Kd.M (Kd.int .i64) _ _ _ 0 [.int .i64 0] from rfl) (Reps.one (show Kd.M (Kd.int .i64) _ _ _ 2 [.int .i64 2] from rfl) (Reps.none _ _)))); intro v248 w109 ho110 hb hg_ hnew_; clear hg_ hnew_; (first | rw [← Ny247.out] at ho110 | (simp only [Int.reduceToNat] at ho110; rw [← Ny247.out] at ho110)); have n0_ := aM (Kd.N_elder' (oN HO_1.out) (Kd.R_base ho110) hb); have n1_ := aM (Kd.R_below (oR HO_200001.out) hb); have n2_ := aM (Kd.R_below (oR HO_200002.out) hb); have n3_ := aM (Kd.N_elder' (oN HO_200003.out) (Kd.R_base ho110) hb); have n4_ := aM (Kd.N_elder' (oN HO_200004.out) (Kd.R_base ho110) hb); have n5_ := aM (Kd.R_elder' (oR HO241.out) (Kd.R_base ho110) hb); have n6_ := aM (Kd.R_elder' (oR HO245.out) (Kd.R_base ho110) hb); have n7_ := aM (Kd.R_lower (Kd.R_new' (Kd.R_new' ho110 (Kd.R_lt (oR HO241.out))) (Kd.R_lt (oR HO245.out))) (below_size (bB1 HB.out GE199.out))); have n8_ := aM (kW BK199.out hb); have n9_ := aM (below_step (bB1 HB.out GE199.out) hb); clear HO_1; clear HO_200001; clear HO_200002; clear HO_200003; clear HO_200004; clear HO241; clear HO245; clear BK199; clear HB; have HO_1 := n0_; have HO_200001 := n1_; have HO_200002 := n2_; have HO_200003 := n3_; have HO_200004 := n4_; have HO241 := n5_; have HO245 := n6_; have HO249 := n7_; have BK199 := n8_; have HB := n9_; clear n0_ n1_ n2_ n3_ n4_ n5_ n6_ n7_ n8_ n9_; clear hb ho110; obtain ⟨Ao111, co111, eo111⟩ := Kd.R_slice HO249.out; subst eo111) | (go_at_call 20; (with_reducible refine (binding_Text.calls kj70 _ _ t183 t186 _ _ t187 _ _ t190 _ _ t193 _ _ t196 _ _ y247 t250 _ ?side1 ?side2 ?side3 ?side4 ?side5 ?side6 ?side7 ?side8 ?side9 ?side10 ?side11 ?side12 A97.out).mono ?_); (case side1 => repeat (first | exact (Kd.N_reads' HO_1.out).2.2 | (with_reducible refine Kd.C_alloc ?_ _) | (with_reducible refine Kd.C_drewN ?_ _) | (with_reducible refine Kd.C_drew ?_))); (case side2 => exact (Kd.N_reads' HO_1.out).2.1); (case side3 => repeat (first | exact (Kd.R_reads' HO_200001.out).2.2 | (with_reducible refine Kd.C_alloc ?_ _) | (with_reducible refine Kd.C_drewN ?_ _) | (with_reducible refine Kd.C_drew ?_))); (case side4 => exact (Kd.R_reads' HO_200001.out).2.1); (case side5 => repeat (first | exact (Kd.R_reads' HO_200002.out).2.2 | (with_reducible refine Kd.C_alloc ?_ _) | (with_reducible refine Kd.C_drewN ?_ _) | (with_reducible refine Kd.C_drew ?_))); (case side6 => exact (Kd.R_reads' HO_200002.out).2.1); (case side7 => repeat (first | exact (Kd.N_reads' HO_200003.out).2.2 | (with_reducible refine Kd.C_alloc ?_ _) | (with_reducible refine Kd.C_drewN ?_ _) | (with_reducible refine Kd.C_drew ?_))); (case side8 => exact (Kd.N_reads' HO_200003.out).2.1); (case side9 => repeat (first | exact (Kd.N_reads' HO_200004.out).2.2 | (with_reducible refine Kd.C_alloc ?_ _) | (with_reducible refine Kd.C_drewN ?_ _) | (with_reducible refine Kd.C_drew ?_))); (case side10 => exact (Kd.N_reads' HO_200004.out).2.1); (case side11 => repeat (first | exact (Kd.R_reads' HO249.out).2.2 | (with_reducible refine Kd.C_alloc ?_ _) | (with_reducible refine Kd.C_drewN ?_ _) | (with_reducible refine Kd.C_drew ?_))); (case side12 => exact (Kd.R_reads' HO249.out).2.1); rintro e w112 ⟨rfl, hb⟩; have n0_ := aM (Kd.N_below (oN HO_1.out) hb); have n1_ := aM (Kd.R_below (oR HO_200001.out) hb); have n2_ := aM (Kd.R_below (oR HO_200002.out) hb); have n3_ := aM (Kd.N_below (oN HO_200003.out) hb); have n4_ := aM (Kd.N_below (oN HO_200004.out) hb); have n5_ := aM (Kd.R_below (oR HO241.out) hb); have n6_ := aM (Kd.R_below (oR HO245.out) hb); have n7_ := aM (Kd.R_below (oR HO249.out) hb); have n8_ := aM (kW BK199.out hb); have n9_ := aM (below_step (bB1 HB.out GE199.out) hb); clear HO_1; clear HO_200001; clear HO_200002; clear HO_200003; clear HO_200004; clear HO241; clear HO245; clear HO249; clear BK199; clear HB; have HO_1 := n0_; have HO_200001 := n1_; have HO_200002 := n2_; have HO_200003 := n3_; have HO_200004 := n4_; have HO241 := n5_; have HO245 := n6_; have HO249 := n7_; have BK199 := n8_; have HB := n9_; clear n0_ n1_ n2_ n3_ n4_ n5_ n6_ n7_ n8_ n9_; (try clear hb); (try clear hb2); (try clear hk); (try clear hi)))
         go_ret
         exact ⟨rT, bB1 HB.out GE199.out⟩
       ·replace c94 := Bool.eq_false_iff.mpr c94
        subst c94
        have H1 : (some false) = some r := by rw [if_neg (show ¬ (false = true) by decide)] at H; exact H
        clear H; have H := H1; clear H1
        exact absurd ((Option.some.inj H).trans hrT_.out) Bool.false_ne_true










































end Go.Proofs.Ytapkjfnfkalibaa.Pr
