/- Functions that the statement reaches: what each answers, and that the program answers it (written by a program of this work). -/
import Derived.Test.YtapkjfnfkalibaaProg
import Derived.Below
import Derived.Deep.Draws
import Derived.Deep.AppendLies
import Derived.Maps.AppendAt
import Derived.OwnWalk
import Derived.Laws.BytesArg
import Derived.Laws.MakeOwn
import Derived.Laws.OwnMore
import Derived.Deep.OwnRows
import Derived.Tactics
import Derived.Lib.ConvBytes
import Derived.Laws.Slices
import Derived.WalkKit
import Derived.KernelRfl
import Derived.RowKit3
import Derived.Deep.LoopGhost
import Derived.Deep.QuietTactic
import Derived.BigQuiet
import Derived.WideLaws
import Derived.Deep.DeepCutAuto
import Derived.Deep.CutBlock
import Derived.Deep.RegionHeld3
import Derived.Laws.Rows
import Derived.Lib.AppendStr
import Derived.ArgAppend
import Derived.Laws.IdiomCopy
import Derived.OrdersHeld
import Derived.Laws.BitsLemmas
import Derived.RowKit
import Derived.WalkMore
import Derived.Test.YtapkjfnfkalibaaVBindingTerms
import Derived.Test.YtapkjfnfkalibaaBBindingTerms
import Derived.LoopTactic
import Derived.BigGuardPart
import Derived.Maps.OwnSet
import Derived.Maps.Views
namespace Go.Proofs.Ytapkjfnfkalibaa.Pr
open Go.RowKit Go.Proofs.YtapkjfnfkalibaaW.PrintWords Go.Proofs.YtapkjfnfkalibaaW.PrintLast Go.Proofs.YtapkjfnfkalibaaW.PrintMore
attribute [local go_sem] Instr.field asAgg
attribute [local go_sem] max2_int min2_int max_two min_two max_three min_three max_four min_four   -- for this text's walks alone
set_option linter.unusedVariables false
set_option linter.unusedSimpArgs false
/-! ### Side goals that stand in every row -/
theorem bB {P Q : Prop} (h : P) (hh : P → Q := by intro h_; repeat (first | (with_reducible first | exact h_ | apply below_alloc | apply pw_below_drewN | apply below_drew1) | exact h_)) : Q := hh h
theorem bB1 {P G Q : Prop} (h : P) (g : G) (hh : P → G → Q := by intro h_ g_; repeat (first | (with_reducible first | exact h_ | apply below_alloc | apply pw_below_drewN | apply below_drew1 | refine below_set ?_ g_) | exact h_)) : Q := hh h g
theorem bB2 {P G G' Q : Prop} (h : P) (g : G) (g' : G') (hh : P → G → G' → Q := by intro h_ g_ g1_; repeat (first | (with_reducible first | exact h_ | apply below_alloc | apply pw_below_drewN | apply below_drew1 | refine below_set ?_ g_ | refine below_set ?_ g1_) | exact h_)) : Q := hh h g g'
theorem kB {P Q : Prop} (h : P) (hh : P → Q := by intro h_; (with_reducible repeat (first | refine blk_drewN ?_ _ | refine blk_drew ?_ | refine blk_alloc ?_ _)); exact h_) : Q := hh h
theorem kW {w W w' : World} {g : Nat} {o : Obj} (h : w.heap[g]? = some o) (b : Below W.heap.size W w') (hh : w.heap[g]? = some o → W.heap[g]? = some o := by intro h_; (with_reducible repeat (first | refine blk_drewN ?_ _ | refine blk_drew ?_ | refine blk_alloc ?_ _)); exact h_) : w'.heap[g]? = some o := blk_below (hh h) b
theorem kL {w W : World} {g : Nat} {o : Obj} (h : w.heap[g]? = some o) (hh : w.heap[g]? = some o → W.heap[g]? = some o := by intro h_; (with_reducible repeat (first | refine blk_drewN ?_ _ | refine blk_drew ?_ | refine blk_alloc ?_ _)); exact h_) : g < W.heap.size := blk_lt (hh h)
theorem cB {P B Q : Prop} (h : P) (b : B) (hh : P → B → Q := by intro h_ b_; repeat (first | exact (Kd.C_below h_ b_) | (with_reducible refine Kd.C_alloc ?_ _) | (with_reducible refine Kd.C_drewN ?_ _) | (with_reducible refine Kd.C_drew ?_))) : Q := hh h b
theorem dT {p : Prop} [Decidable p] (h : decide p = true := by first | (with_reducible assumption) | assumption) : p := of_decide_eq_true h
theorem eT {p : Prop} (h : p := by first | rfl | (simp; done) | (simp [*]; done) | (simp [i64_w]; done)) : p := h
theorem mT {p : Prop} (h : p := by (try simp only [List.map_toArray, List.map_cons, List.map_nil]); first | done | rfl | (simp only [List.length_drop, List.length_take]; rfl)) : p := h
theorem pT {p : Prop} (h : p := by simp only [Act.put, List.setIfInBounds_toArray, List.set_cons_zero, List.set_cons_succ, i64_w, i32_w]; rfl) : p := h
theorem qT {p : Prop} (h : p := by intro w'; go_simp; with_reducible rfl) : p := h
theorem rT {p : Prop} (h : p := by first | rfl | (simp [errW_none, errW_some] <;> rfl) | (simp [*, errW_none, errW_some] <;> rfl)) : p := h
theorem bB3 {P G G' G2 Q : Prop} (h : P) (g : G) (g' : G') (g2 : G2) (hh : P → G → G' → G2 → Q := by intro h_ g_ g1_ g2_; repeat (first | (with_reducible first | exact h_ | apply below_alloc | apply pw_below_drewN | apply below_drew1 | refine below_set ?_ g_ | refine below_set ?_ g1_ | refine below_set ?_ g2_) | exact h_)) : Q := hh h g g' g2
theorem bB4 {P G G' G2 G3 Q : Prop} (h : P) (g : G) (g' : G') (g2 : G2) (g3 : G3) (hh : P → G → G' → G2 → G3 → Q := by intro h_ g_ g1_ g2_ g3_; repeat (first | (with_reducible first | exact h_ | apply below_alloc | apply pw_below_drewN | apply below_drew1 | refine below_set ?_ g_ | refine below_set ?_ g1_ | refine below_set ?_ g2_ | refine below_set ?_ g3_) | exact h_)) : Q := hh h g g' g2 g3
theorem kR {P Q : Prop} (h : P) (hh : P → Q := by intro h_; (with_reducible repeat (first | refine blk_drewN ?_ _ | refine blk_drew ?_ | refine blk_alloc ?_ _)); exact h_) : Q := hh h
theorem oR {P Q : Prop} (h : P) (hh : P → Q := by intro h_; (with_reducible repeat (first | apply Kd.R_alloc | apply Kd.R_drewN | apply Kd.R_drew)); exact h_) : Q := hh h
theorem oN {P Q : Prop} (h : P) (hh : P → Q := by intro h_; (with_reducible repeat (first | apply Kd.N_alloc | apply Kd.N_drewN | apply Kd.N_drew)); exact h_) : Q := hh h
theorem oS {P Q : Prop} (h : P) (hh : P → Q := by intro h_; (with_reducible repeat (first | apply Kd.S_alloc | apply Kd.S_drewN | apply Kd.S_drew)); exact h_) : Q := hh h
theorem oV {P Q : Prop} (h : P) (hh : P → Q := by intro h_; (with_reducible repeat (first | apply Kd.V_alloc | apply Kd.V_drewN | apply Kd.V_drew)); exact h_) : Q := hh h
theorem oQ {P Q : Prop} (h : P) (hh : P → Q := by intro h_; (with_reducible repeat (first | apply Kd.Q_alloc | apply Kd.Q_drewN | apply Kd.Q_drew)); exact h_) : Q := hh h
theorem oF {P Q : Prop} (h : P) (hh : P → Q := by intro h_; (with_reducible repeat (first | apply Kd.F_alloc | apply Kd.F_drewN | apply Kd.F_drew)); exact h_) : Q := hh h
theorem tR {α : Type} {d : Kd α} {e base g t : Nat} {ok : Nat → Prop} {w W : World} {v : Value} {xs : List α} {cells : Array Value} (h : d.R e w base ok v xs) (b : w.heap[g]? = some (.cells cells t (0, 0))) (ht : ∀ q, q ∈ e :: d.E → q ≠ t := by decide) (hh : d.R e w base (fun k => ok k ∧ k ≠ g) v xs → d.R e W base (fun k => ok k ∧ k ≠ g) v xs := by intro h_; repeat (first | with_reducible exact h_ | with_reducible refine Kd.R_far (p := ⟨_, _, none⟩) ?_ (fun _ hk => hk.2) _ | refine Kd.R_far (p := ⟨_, _, none⟩) ?_ (fun _ hk => hk.2) _ | exact h_)) : d.R e W base ok v xs := Kd.R_mono (hh (Kd.R_types h b ht)) (fun _ q => q.1)
theorem uR {α : Type} {d : Kd α} {e base : Nat} {ok : Nat → Prop} {w W : World} {v : Value} {xs : List α} (g : Nat) (h : d.R e w base ok v xs) (hk : ∀ k, ok k → k ≠ g := by intro _ q_; exact q_.2) (hh : d.R e w base (fun k => ok k ∧ k ≠ g) v xs → d.R e W base (fun k => ok k ∧ k ≠ g) v xs := by intro h_; repeat (first | with_reducible exact h_ | with_reducible refine Kd.R_far (p := ⟨_, _, none⟩) ?_ (fun _ hk => hk.2) _ | refine Kd.R_far (p := ⟨_, _, none⟩) ?_ (fun _ hk => hk.2) _ | exact h_)) : d.R e W base ok v xs := Kd.R_mono (hh (Kd.R_mono h (fun k q => ⟨q, hk k q⟩))) (fun _ q => q.1)
theorem fA {P G Q : Prop} (h : P) (g : G) (hh : P → G → Q := by intro h_ g_; first | exact Nat.ne_of_lt (Nat.lt_of_lt_of_le (by have := World.block_lt_of_cell? _ _ h_; first | rwa [add_block] at this | exact this) g_) | (rw [add_block]; exact Nat.ne_of_lt (Nat.lt_of_lt_of_le (by have := World.block_lt_of_cell? _ _ h_; first | rwa [add_block] at this | exact this) g_)) | (show (Addr.add _ _).block ≠ _; rw [add_block]; exact Nat.ne_of_lt (Nat.lt_of_lt_of_le (by have := World.block_lt_of_cell? _ _ h_; first | rwa [add_block] at this | exact this) g_)) | (dsimp only; exact Nat.ne_of_lt (Nat.lt_of_lt_of_le (by have := World.block_lt_of_cell? _ _ h_; first | rwa [add_block] at this | exact this) g_))) : Q := hh h g
theorem fB {P Q : Prop} (h : P) (hh : P → Q := by intro h_; first | exact h_ | (rw [add_block]; exact h_) | (show (Addr.add _ _).block ≠ _; rw [add_block]; exact h_) | (dsimp only; exact h_)) : Q := hh h
theorem aM {p : Prop} (h : p) : Aside0 p := Aside0.mk h



def errW : Option Int → Value
  | none => .nilIface
  | some c => .iface 0 (.int .i64 c)
theorem errW_none : errW none = .nilIface := rfl
theorem errW_some (c : Int) : errW (some c) = .iface 0 (.int .i64 c) := rfl

theorem info3 : (Try.prog.info? 3).map (fun i => (i.zero, i.size, i.bytes)) = some (some (.int .i64 0), 1, 8) := by kernel_rfl
theorem info9 : (Try.prog.info? 9).map (fun i => (i.zero, i.size, i.bytes)) = some (some (.string ⟨#[]⟩), 1, 16) := by kernel_rfl
theorem info29 : (Try.prog.info? 29).map (fun i => (i.zero, i.size, i.bytes)) = some (some (.slice none 0 0), 1, 24) := by kernel_rfl
theorem info48 : (Try.prog.info? 48).map (fun i => (i.zero, i.size, i.bytes)) = some (some (.agg #[(.string ⟨#[]⟩), (.int .i64 0)]), 2, 24) := by kernel_rfl
theorem info51 : (Try.prog.info? 51).map (fun i => (i.zero, i.size, i.bytes)) = some (some (.agg #[(.string ⟨#[]⟩), (.slice none 0 0)]), 2, 40) := by kernel_rfl
theorem info54 : (Try.prog.info? 54).map (fun i => (i.zero, i.size, i.bytes)) = some (some (.agg #[(.int .i64 0), (.int .i64 0), (.int .i64 0)]), 3, 24) := by kernel_rfl
theorem info62 : (Try.prog.info? 62).map (fun i => (i.zero, i.size, i.bytes)) = some (some (.agg #[(.int .i64 0), (.int .i64 0), (.int .i64 0)]), 3, 24) := by kernel_rfl
-- the values' own types
def rd_L1 (xs : List (List ByteArray)) (i : Int) : (List ByteArray) := xs.getD i.toNat ([] : List ByteArray)
theorem at_L1 {w : World} {A : Option Addr} {n : Nat} {xs : List (List ByteArray)} (h : Kd.C (Kd.slice 9 Kd.string) w A n xs) (i : Int) (h0 : 0 ≤ i) (h1 : i < n) : ∃ ad A0 c0, A = some ad ∧ w.cell? (ad.add i.toNat) = some (.slice A0 (rd_L1 xs i).length c0) ∧ (rd_L1 xs i).length ≤ c0 ∧ Kd.string.C w A0 (rd_L1 xs i).length (rd_L1 xs i) := by
  obtain ⟨ad, c, e, _, hK, hc0⟩ := Kd.C_get h ([] : List ByteArray) i h0 h1
  have hc : ∀ j u, c[j]? = some u → w.cell? (ad.add (i.toNat * 1 + j)) = some u := hc0
  obtain ⟨A0, c0, rfl, l0, g0⟩ := hK
  exact ⟨ad, A0, c0, e, by have hq := hc 0 _ rfl; rwa [Nat.mul_one, Nat.add_zero] at hq, l0, g0⟩

/-! #### struct type 51 -/
structure S51 where
  f0 : ByteArray
  f1 : (List ByteArray)
def z51 : S51 := ⟨(⟨#[]⟩ : ByteArray), ([] : List ByteArray)⟩
def k51 : Kd S51 := Kd.iso (Kd.pair Kd.string (Kd.slice 9 Kd.string)) (fun x : S51 => (x.f0, x.f1))
theorem k51_open {w : World} {x : S51} {cs : List Value} (h : k51.K w x cs) : ∃ A1 c1, cs = [.string x.f0, .slice A1 x.f1.length c1] ∧ x.f1.length ≤ c1 ∧ Kd.string.C w A1 x.f1.length x.f1 := by
  obtain ⟨_, _, rfl, rfl, ⟨A1, c1, rfl, l1, g1⟩⟩ := h
  exact ⟨A1, c1, rfl, l1, g1⟩
theorem k51_openM {w : World} {base : Nat} {ok : Nat → Prop} {x : S51} {cs : List Value} (h : k51.M w base ok x cs) : ∃ v1, cs = [.string x.f0, v1] ∧ Kd.string.R 9 w base ok v1 x.f1 := by
  obtain ⟨_, _, rfl, rfl, ⟨v1, rfl, g1⟩⟩ := h
  exact ⟨v1, rfl, g1⟩
theorem k51_mk (w : World) (x : S51) {A1 : Option Addr} {c1 : Nat} (l1 : x.f1.length ≤ c1) (g1 : Kd.string.C w A1 x.f1.length x.f1) : k51.K w x [.string x.f0, .slice A1 x.f1.length c1] := ⟨[.string x.f0], [.slice A1 x.f1.length c1], rfl, rfl, ⟨A1, c1, rfl, l1, g1⟩⟩
theorem k51_mkM (w : World) (base : Nat) (ok : Nat → Prop) (x : S51) {v1 : Value} (g1 : Kd.string.R 9 w base ok v1 x.f1) : k51.M w base ok x [.string x.f0, v1] := ⟨[.string x.f0], [v1], rfl, rfl, ⟨v1, rfl, g1⟩⟩
theorem k51_openF {W : World} {ok : Nat → Prop} {x : S51} {cs : List Value} (h : Kd.FK k51 W ok x cs) : ∃ A1 c1, cs = [.string x.f0, .slice A1 x.f1.length c1] ∧ x.f1.length ≤ c1 ∧ Kd.F Kd.string W ok A1 x.f1.length x.f1 := by
  obtain ⟨A1, c1, rfl, l1, _⟩ := k51_open (Kd.FK_now h)
  exact ⟨A1, c1, rfl, l1, (fun W' hW => by obtain ⟨A1_, c1_, he, l1_, g1_⟩ := k51_open (h W' hW); injection (Option.some.inj (show some (Value.slice A1 x.f1.length c1) = some (Value.slice A1_ x.f1.length c1_) from congrArg (fun l => l[1]?) he)) with ha_ _ _; rw [ha_]; exact g1_)⟩
theorem k51_mkF (W : World) (ok : Nat → Prop) (x : S51) {A1 : Option Addr} {c1 : Nat} (l1 : x.f1.length ≤ c1) (g1 : Kd.F Kd.string W ok A1 x.f1.length x.f1) : Kd.FK k51 W ok x [.string x.f0, .slice A1 x.f1.length c1] := fun W2 hW => k51_mk W2 x l1 (g1 W2 hW)
def rd_T51 (xs : List S51) (i : Int) : S51 := xs.getD i.toNat z51
theorem at_T51 {w : World} {A : Option Addr} {n : Nat} {xs : List S51} (h : Kd.C k51 w A n xs) (i : Int) (h0 : 0 ≤ i) (h1 : i < n) : ∃ ad A1 c1, A = some ad ∧ w.cell? (ad.add (i.toNat * 2)) = some (.string (rd_T51 xs i).f0) ∧ w.cell? ⟨(ad.add (i.toNat * 2)).block, (ad.add (i.toNat * 2)).off + 1, none⟩ = some (.slice A1 (rd_T51 xs i).f1.length c1) ∧ (rd_T51 xs i).f1.length ≤ c1 ∧ Kd.string.C w A1 (rd_T51 xs i).f1.length (rd_T51 xs i).f1 := by
  obtain ⟨ad, c, e, _, hK, hc0⟩ := Kd.C_get h z51 i h0 h1
  have hc : ∀ j u, c[j]? = some u → w.cell? (ad.add (i.toNat * 2 + j)) = some u := hc0
  obtain ⟨A1, c1, rfl, l1, g1⟩ := k51_open hK
  exact ⟨ad, A1, c1, e, hc 0 _ rfl, by rw [← add_field _ _ 1 (by omega)]; exact hc 1 _ rfl, l1, g1⟩

/-! #### struct type 48 -/
structure S48 where
  f0 : ByteArray
  f1 : Int
def z48 : S48 := ⟨(⟨#[]⟩ : ByteArray), (0 : Int)⟩
def k48 : Kd S48 := Kd.iso (Kd.pair Kd.string (Kd.int .i64)) (fun x : S48 => (x.f0, x.f1))
theorem k48_open {w : World} {x : S48} {cs : List Value} (h : k48.K w x cs) : cs = [.string x.f0, .int .i64 x.f1] := by
  obtain ⟨_, _, rfl, rfl, rfl⟩ := h
  exact rfl
theorem k48_openM {w : World} {base : Nat} {ok : Nat → Prop} {x : S48} {cs : List Value} (h : k48.M w base ok x cs) : cs = [.string x.f0, .int .i64 x.f1] := by
  obtain ⟨_, _, rfl, rfl, rfl⟩ := h
  exact rfl
theorem k48_mk (w : World) (x : S48)  : k48.K w x [.string x.f0, .int .i64 x.f1] := ⟨[.string x.f0], [.int .i64 x.f1], rfl, rfl, rfl⟩
theorem k48_mkM (w : World) (base : Nat) (ok : Nat → Prop) (x : S48)  : k48.M w base ok x [.string x.f0, .int .i64 x.f1] := ⟨[.string x.f0], [.int .i64 x.f1], rfl, rfl, rfl⟩
theorem k48_mkF (W : World) (ok : Nat → Prop) (x : S48) : Kd.FK k48 W ok x [.string x.f0, .int .i64 x.f1] := fun W2 _ => k48_mk W2 x
def rd_T48 (xs : List S48) (i : Int) : S48 := xs.getD i.toNat z48
theorem at_T48 {w : World} {A : Option Addr} {n : Nat} {xs : List S48} (h : Kd.C k48 w A n xs) (i : Int) (h0 : 0 ≤ i) (h1 : i < n) : ∃ ad , A = some ad ∧ w.cell? (ad.add (i.toNat * 2)) = some (.string (rd_T48 xs i).f0) ∧ w.cell? ⟨(ad.add (i.toNat * 2)).block, (ad.add (i.toNat * 2)).off + 1, none⟩ = some (.int .i64 (rd_T48 xs i).f1) := by
  obtain ⟨ad, c, e, _, hK, hc0⟩ := Kd.C_get h z48 i h0 h1
  have hc : ∀ j u, c[j]? = some u → w.cell? (ad.add (i.toNat * 2 + j)) = some u := hc0
  obtain rfl := k48_open hK
  exact ⟨ad, e, hc 0 _ rfl, by rw [← add_field _ _ 1 (by omega)]; exact hc 1 _ rfl⟩

/-! #### struct type 62 -/
structure S62 where
  f0 : Int
  f1 : Int
  f2 : Int
def z62 : S62 := ⟨(0 : Int), (0 : Int), (0 : Int)⟩
def k62 : Kd S62 := Kd.iso (Kd.pair (Kd.int .i64) (Kd.pair (Kd.int .i64) (Kd.int .i64))) (fun x : S62 => (x.f0, x.f1, x.f2))
theorem k62_open {w : World} {x : S62} {cs : List Value} (h : k62.K w x cs) : cs = [.int .i64 x.f0, .int .i64 x.f1, .int .i64 x.f2] := by
  obtain ⟨_, _, rfl, rfl, ⟨_, _, rfl, rfl, rfl⟩⟩ := h
  exact rfl
theorem k62_openM {w : World} {base : Nat} {ok : Nat → Prop} {x : S62} {cs : List Value} (h : k62.M w base ok x cs) : cs = [.int .i64 x.f0, .int .i64 x.f1, .int .i64 x.f2] := by
  obtain ⟨_, _, rfl, rfl, ⟨_, _, rfl, rfl, rfl⟩⟩ := h
  exact rfl
theorem k62_mk (w : World) (x : S62)  : k62.K w x [.int .i64 x.f0, .int .i64 x.f1, .int .i64 x.f2] := ⟨[.int .i64 x.f0], [.int .i64 x.f1, .int .i64 x.f2], rfl, rfl, ⟨[.int .i64 x.f1], [.int .i64 x.f2], rfl, rfl, rfl⟩⟩
theorem k62_mkM (w : World) (base : Nat) (ok : Nat → Prop) (x : S62)  : k62.M w base ok x [.int .i64 x.f0, .int .i64 x.f1, .int .i64 x.f2] := ⟨[.int .i64 x.f0], [.int .i64 x.f1, .int .i64 x.f2], rfl, rfl, ⟨[.int .i64 x.f1], [.int .i64 x.f2], rfl, rfl, rfl⟩⟩
theorem k62_mkF (W : World) (ok : Nat → Prop) (x : S62) : Kd.FK k62 W ok x [.int .i64 x.f0, .int .i64 x.f1, .int .i64 x.f2] := fun W2 _ => k62_mk W2 x
def rd_T62 (xs : List S62) (i : Int) : S62 := xs.getD i.toNat z62
theorem at_T62 {w : World} {A : Option Addr} {n : Nat} {xs : List S62} (h : Kd.C k62 w A n xs) (i : Int) (h0 : 0 ≤ i) (h1 : i < n) : ∃ ad , A = some ad ∧ w.cell? (ad.add (i.toNat * 3)) = some (.int .i64 (rd_T62 xs i).f0) ∧ w.cell? ⟨(ad.add (i.toNat * 3)).block, (ad.add (i.toNat * 3)).off + 1, none⟩ = some (.int .i64 (rd_T62 xs i).f1) ∧ w.cell? ⟨(ad.add (i.toNat * 3)).block, (ad.add (i.toNat * 3)).off + 2, none⟩ = some (.int .i64 (rd_T62 xs i).f2) := by
  obtain ⟨ad, c, e, _, hK, hc0⟩ := Kd.C_get h z62 i h0 h1
  have hc : ∀ j u, c[j]? = some u → w.cell? (ad.add (i.toNat * 3 + j)) = some u := hc0
  obtain rfl := k62_open hK
  exact ⟨ad, e, hc 0 _ rfl, by rw [← add_field _ _ 1 (by omega)]; exact hc 1 _ rfl, by rw [← add_field _ _ 2 (by omega)]; exact hc 2 _ rfl⟩

/-! #### struct type 54 -/
structure S54 where
  f0 : Int
  f1 : Int
  f2 : Int
def z54 : S54 := ⟨(0 : Int), (0 : Int), (0 : Int)⟩
def k54 : Kd S54 := Kd.iso (Kd.pair (Kd.int .i64) (Kd.pair (Kd.int .i64) (Kd.int .i64))) (fun x : S54 => (x.f0, x.f1, x.f2))
theorem k54_open {w : World} {x : S54} {cs : List Value} (h : k54.K w x cs) : cs = [.int .i64 x.f0, .int .i64 x.f1, .int .i64 x.f2] := by
  obtain ⟨_, _, rfl, rfl, ⟨_, _, rfl, rfl, rfl⟩⟩ := h
  exact rfl
theorem k54_openM {w : World} {base : Nat} {ok : Nat → Prop} {x : S54} {cs : List Value} (h : k54.M w base ok x cs) : cs = [.int .i64 x.f0, .int .i64 x.f1, .int .i64 x.f2] := by
  obtain ⟨_, _, rfl, rfl, ⟨_, _, rfl, rfl, rfl⟩⟩ := h
  exact rfl
theorem k54_mk (w : World) (x : S54)  : k54.K w x [.int .i64 x.f0, .int .i64 x.f1, .int .i64 x.f2] := ⟨[.int .i64 x.f0], [.int .i64 x.f1, .int .i64 x.f2], rfl, rfl, ⟨[.int .i64 x.f1], [.int .i64 x.f2], rfl, rfl, rfl⟩⟩
theorem k54_mkM (w : World) (base : Nat) (ok : Nat → Prop) (x : S54)  : k54.M w base ok x [.int .i64 x.f0, .int .i64 x.f1, .int .i64 x.f2] := ⟨[.int .i64 x.f0], [.int .i64 x.f1, .int .i64 x.f2], rfl, rfl, ⟨[.int .i64 x.f1], [.int .i64 x.f2], rfl, rfl, rfl⟩⟩
theorem k54_mkF (W : World) (ok : Nat → Prop) (x : S54) : Kd.FK k54 W ok x [.int .i64 x.f0, .int .i64 x.f1, .int .i64 x.f2] := fun W2 _ => k54_mk W2 x
def rd_T54 (xs : List S54) (i : Int) : S54 := xs.getD i.toNat z54
theorem at_T54 {w : World} {A : Option Addr} {n : Nat} {xs : List S54} (h : Kd.C k54 w A n xs) (i : Int) (h0 : 0 ≤ i) (h1 : i < n) : ∃ ad , A = some ad ∧ w.cell? (ad.add (i.toNat * 3)) = some (.int .i64 (rd_T54 xs i).f0) ∧ w.cell? ⟨(ad.add (i.toNat * 3)).block, (ad.add (i.toNat * 3)).off + 1, none⟩ = some (.int .i64 (rd_T54 xs i).f1) ∧ w.cell? ⟨(ad.add (i.toNat * 3)).block, (ad.add (i.toNat * 3)).off + 2, none⟩ = some (.int .i64 (rd_T54 xs i).f2) := by
  obtain ⟨ad, c, e, _, hK, hc0⟩ := Kd.C_get h z54 i h0 h1
  have hc : ∀ j u, c[j]? = some u → w.cell? (ad.add (i.toNat * 3 + j)) = some u := hc0
  obtain rfl := k54_open hK
  exact ⟨ad, e, hc 0 _ rfl, by rw [← add_field _ _ 1 (by omega)]; exact hc 1 _ rfl, by rw [← add_field _ _ 2 (by omega)]; exact hc 2 _ rfl⟩

def rd_L7 (xs : List (List S54)) (i : Int) : (List S54) := xs.getD i.toNat ([] : List S54)
theorem at_L7 {w : World} {A : Option Addr} {n : Nat} {xs : List (List S54)} (h : Kd.C (Kd.slice 54 k54) w A n xs) (i : Int) (h0 : 0 ≤ i) (h1 : i < n) : ∃ ad A0 c0, A = some ad ∧ w.cell? (ad.add i.toNat) = some (.slice A0 (rd_L7 xs i).length c0) ∧ (rd_L7 xs i).length ≤ c0 ∧ k54.C w A0 (rd_L7 xs i).length (rd_L7 xs i) := by
  obtain ⟨ad, c, e, _, hK, hc0⟩ := Kd.C_get h ([] : List S54) i h0 h1
  have hc : ∀ j u, c[j]? = some u → w.cell? (ad.add (i.toNat * 1 + j)) = some u := hc0
  obtain ⟨A0, c0, rfl, l0, g0⟩ := hK
  exact ⟨ad, A0, c0, e, by have hq := hc 0 _ rfl; rwa [Nat.mul_one, Nat.add_zero] at hq, l0, g0⟩

/-! #### struct type 111 -/
structure S111 where
  f0 : Int
  f1 : (List S54)
def z111 : S111 := ⟨(0 : Int), ([] : List S54)⟩
def k111 : Kd S111 := Kd.iso (Kd.pair (Kd.int .i64) (Kd.slice 54 k54)) (fun x : S111 => (x.f0, x.f1))
theorem k111_open {w : World} {x : S111} {cs : List Value} (h : k111.K w x cs) : ∃ A1 c1, cs = [.int .i64 x.f0, .slice A1 x.f1.length c1] ∧ x.f1.length ≤ c1 ∧ k54.C w A1 x.f1.length x.f1 := by
  obtain ⟨_, _, rfl, rfl, ⟨A1, c1, rfl, l1, g1⟩⟩ := h
  exact ⟨A1, c1, rfl, l1, g1⟩
theorem k111_openM {w : World} {base : Nat} {ok : Nat → Prop} {x : S111} {cs : List Value} (h : k111.M w base ok x cs) : ∃ v1, cs = [.int .i64 x.f0, v1] ∧ k54.R 54 w base ok v1 x.f1 := by
  obtain ⟨_, _, rfl, rfl, ⟨v1, rfl, g1⟩⟩ := h
  exact ⟨v1, rfl, g1⟩
theorem k111_mk (w : World) (x : S111) {A1 : Option Addr} {c1 : Nat} (l1 : x.f1.length ≤ c1) (g1 : k54.C w A1 x.f1.length x.f1) : k111.K w x [.int .i64 x.f0, .slice A1 x.f1.length c1] := ⟨[.int .i64 x.f0], [.slice A1 x.f1.length c1], rfl, rfl, ⟨A1, c1, rfl, l1, g1⟩⟩
theorem k111_mkM (w : World) (base : Nat) (ok : Nat → Prop) (x : S111) {v1 : Value} (g1 : k54.R 54 w base ok v1 x.f1) : k111.M w base ok x [.int .i64 x.f0, v1] := ⟨[.int .i64 x.f0], [v1], rfl, rfl, ⟨v1, rfl, g1⟩⟩
theorem k111_openF {W : World} {ok : Nat → Prop} {x : S111} {cs : List Value} (h : Kd.FK k111 W ok x cs) : ∃ A1 c1, cs = [.int .i64 x.f0, .slice A1 x.f1.length c1] ∧ x.f1.length ≤ c1 ∧ Kd.F k54 W ok A1 x.f1.length x.f1 := by
  obtain ⟨A1, c1, rfl, l1, _⟩ := k111_open (Kd.FK_now h)
  exact ⟨A1, c1, rfl, l1, (fun W' hW => by obtain ⟨A1_, c1_, he, l1_, g1_⟩ := k111_open (h W' hW); injection (Option.some.inj (show some (Value.slice A1 x.f1.length c1) = some (Value.slice A1_ x.f1.length c1_) from congrArg (fun l => l[1]?) he)) with ha_ _ _; rw [ha_]; exact g1_)⟩
theorem k111_mkF (W : World) (ok : Nat → Prop) (x : S111) {A1 : Option Addr} {c1 : Nat} (l1 : x.f1.length ≤ c1) (g1 : Kd.F k54 W ok A1 x.f1.length x.f1) : Kd.FK k111 W ok x [.int .i64 x.f0, .slice A1 x.f1.length c1] := fun W2 hW => k111_mk W2 x l1 (g1 W2 hW)
def rd_T111 (xs : List S111) (i : Int) : S111 := xs.getD i.toNat z111
theorem at_T111 {w : World} {A : Option Addr} {n : Nat} {xs : List S111} (h : Kd.C k111 w A n xs) (i : Int) (h0 : 0 ≤ i) (h1 : i < n) : ∃ ad A1 c1, A = some ad ∧ w.cell? (ad.add (i.toNat * 2)) = some (.int .i64 (rd_T111 xs i).f0) ∧ w.cell? ⟨(ad.add (i.toNat * 2)).block, (ad.add (i.toNat * 2)).off + 1, none⟩ = some (.slice A1 (rd_T111 xs i).f1.length c1) ∧ (rd_T111 xs i).f1.length ≤ c1 ∧ k54.C w A1 (rd_T111 xs i).f1.length (rd_T111 xs i).f1 := by
  obtain ⟨ad, c, e, _, hK, hc0⟩ := Kd.C_get h z111 i h0 h1
  have hc : ∀ j u, c[j]? = some u → w.cell? (ad.add (i.toNat * 2 + j)) = some u := hc0
  obtain ⟨A1, c1, rfl, l1, g1⟩ := k111_open hK
  exact ⟨ad, A1, c1, e, hc 0 _ rfl, by rw [← add_field _ _ 1 (by omega)]; exact hc 1 _ rfl, l1, g1⟩

def rd_L10 (xs : List (List S51)) (i : Int) : (List S51) := xs.getD i.toNat ([] : List S51)
theorem at_L10 {w : World} {A : Option Addr} {n : Nat} {xs : List (List S51)} (h : Kd.C (Kd.slice 51 k51) w A n xs) (i : Int) (h0 : 0 ≤ i) (h1 : i < n) : ∃ ad A0 c0, A = some ad ∧ w.cell? (ad.add i.toNat) = some (.slice A0 (rd_L10 xs i).length c0) ∧ (rd_L10 xs i).length ≤ c0 ∧ k51.C w A0 (rd_L10 xs i).length (rd_L10 xs i) := by
  obtain ⟨ad, c, e, _, hK, hc0⟩ := Kd.C_get h ([] : List S51) i h0 h1
  have hc : ∀ j u, c[j]? = some u → w.cell? (ad.add (i.toNat * 1 + j)) = some u := hc0
  obtain ⟨A0, c0, rfl, l0, g0⟩ := hK
  exact ⟨ad, A0, c0, e, by have hq := hc 0 _ rfl; rwa [Nat.mul_one, Nat.add_zero] at hq, l0, g0⟩

def rd_L11 (xs : List (List S48)) (i : Int) : (List S48) := xs.getD i.toNat ([] : List S48)
theorem at_L11 {w : World} {A : Option Addr} {n : Nat} {xs : List (List S48)} (h : Kd.C (Kd.slice 48 k48) w A n xs) (i : Int) (h0 : 0 ≤ i) (h1 : i < n) : ∃ ad A0 c0, A = some ad ∧ w.cell? (ad.add i.toNat) = some (.slice A0 (rd_L11 xs i).length c0) ∧ (rd_L11 xs i).length ≤ c0 ∧ k48.C w A0 (rd_L11 xs i).length (rd_L11 xs i) := by
  obtain ⟨ad, c, e, _, hK, hc0⟩ := Kd.C_get h ([] : List S48) i h0 h1
  have hc : ∀ j u, c[j]? = some u → w.cell? (ad.add (i.toNat * 1 + j)) = some u := hc0
  obtain ⟨A0, c0, rfl, l0, g0⟩ := hK
  exact ⟨ad, A0, c0, e, by have hq := hc 0 _ rfl; rwa [Nat.mul_one, Nat.add_zero] at hq, l0, g0⟩

def rd_L12 (xs : List (List S62)) (i : Int) : (List S62) := xs.getD i.toNat ([] : List S62)
theorem at_L12 {w : World} {A : Option Addr} {n : Nat} {xs : List (List S62)} (h : Kd.C (Kd.slice 62 k62) w A n xs) (i : Int) (h0 : 0 ≤ i) (h1 : i < n) : ∃ ad A0 c0, A = some ad ∧ w.cell? (ad.add i.toNat) = some (.slice A0 (rd_L12 xs i).length c0) ∧ (rd_L12 xs i).length ≤ c0 ∧ k62.C w A0 (rd_L12 xs i).length (rd_L12 xs i) := by
  obtain ⟨ad, c, e, _, hK, hc0⟩ := Kd.C_get h ([] : List S62) i h0 h1
  have hc : ∀ j u, c[j]? = some u → w.cell? (ad.add (i.toNat * 1 + j)) = some u := hc0
  obtain ⟨A0, c0, rfl, l0, g0⟩ := hK
  exact ⟨ad, A0, c0, e, by have hq := hc 0 _ rfl; rwa [Nat.mul_one, Nat.add_zero] at hq, l0, g0⟩

def rd_L13 (xs : List (List S111)) (i : Int) : (List S111) := xs.getD i.toNat ([] : List S111)
theorem at_L13 {w : World} {A : Option Addr} {n : Nat} {xs : List (List S111)} (h : Kd.C (Kd.slice 111 k111) w A n xs) (i : Int) (h0 : 0 ≤ i) (h1 : i < n) : ∃ ad A0 c0, A = some ad ∧ w.cell? (ad.add i.toNat) = some (.slice A0 (rd_L13 xs i).length c0) ∧ (rd_L13 xs i).length ≤ c0 ∧ k111.C w A0 (rd_L13 xs i).length (rd_L13 xs i) := by
  obtain ⟨ad, c, e, _, hK, hc0⟩ := Kd.C_get h ([] : List S111) i h0 h1
  have hc : ∀ j u, c[j]? = some u → w.cell? (ad.add (i.toNat * 1 + j)) = some u := hc0
  obtain ⟨A0, c0, rfl, l0, g0⟩ := hK
  exact ⟨ad, A0, c0, e, by have hq := hc 0 _ rfl; rwa [Nat.mul_one, Nat.add_zero] at hq, l0, g0⟩

/-! #### struct type 27 -/
structure S27 where
  f0 : ByteArray
  f1 : (List S48)
  f2 : (List S62)
  f3 : (List S111)
  f4 : (List S111)
def z27 : S27 := ⟨(⟨#[]⟩ : ByteArray), ([] : List S48), ([] : List S62), ([] : List S111), ([] : List S111)⟩
def k27 : Kd S27 := Kd.iso (Kd.pair Kd.string (Kd.pair (Kd.slice 48 k48) (Kd.pair (Kd.slice 62 k62) (Kd.pair (Kd.slice 111 k111) (Kd.slice 111 k111))))) (fun x : S27 => (x.f0, x.f1, x.f2, x.f3, x.f4))
theorem k27_open {w : World} {x : S27} {cs : List Value} (h : k27.K w x cs) : ∃ A1 c1 A2 c2 A3 c3 A4 c4, cs = [.string x.f0, .slice A1 x.f1.length c1, .slice A2 x.f2.length c2, .slice A3 x.f3.length c3, .slice A4 x.f4.length c4] ∧ x.f1.length ≤ c1 ∧ k48.C w A1 x.f1.length x.f1 ∧ x.f2.length ≤ c2 ∧ k62.C w A2 x.f2.length x.f2 ∧ x.f3.length ≤ c3 ∧ k111.C w A3 x.f3.length x.f3 ∧ x.f4.length ≤ c4 ∧ k111.C w A4 x.f4.length x.f4 := by
  obtain ⟨_, _, rfl, rfl, ⟨_, _, rfl, ⟨A1, c1, rfl, l1, g1⟩, ⟨_, _, rfl, ⟨A2, c2, rfl, l2, g2⟩, ⟨_, _, rfl, ⟨A3, c3, rfl, l3, g3⟩, ⟨A4, c4, rfl, l4, g4⟩⟩⟩⟩⟩ := h
  exact ⟨A1, c1, A2, c2, A3, c3, A4, c4, rfl, l1, g1, l2, g2, l3, g3, l4, g4⟩
theorem k27_openM {w : World} {base : Nat} {ok : Nat → Prop} {x : S27} {cs : List Value} (h : k27.M w base ok x cs) : ∃ v1 v2 v3 v4, cs = [.string x.f0, v1, v2, v3, v4] ∧ k48.R 48 w base ok v1 x.f1 ∧ k62.R 62 w base ok v2 x.f2 ∧ k111.R 111 w base ok v3 x.f3 ∧ k111.R 111 w base ok v4 x.f4 := by
  obtain ⟨_, _, rfl, rfl, ⟨_, _, rfl, ⟨v1, rfl, g1⟩, ⟨_, _, rfl, ⟨v2, rfl, g2⟩, ⟨_, _, rfl, ⟨v3, rfl, g3⟩, ⟨v4, rfl, g4⟩⟩⟩⟩⟩ := h
  exact ⟨v1, v2, v3, v4, rfl, g1, g2, g3, g4⟩
theorem k27_mk (w : World) (x : S27) {A1 : Option Addr} {c1 : Nat} (l1 : x.f1.length ≤ c1) (g1 : k48.C w A1 x.f1.length x.f1) {A2 : Option Addr} {c2 : Nat} (l2 : x.f2.length ≤ c2) (g2 : k62.C w A2 x.f2.length x.f2) {A3 : Option Addr} {c3 : Nat} (l3 : x.f3.length ≤ c3) (g3 : k111.C w A3 x.f3.length x.f3) {A4 : Option Addr} {c4 : Nat} (l4 : x.f4.length ≤ c4) (g4 : k111.C w A4 x.f4.length x.f4) : k27.K w x [.string x.f0, .slice A1 x.f1.length c1, .slice A2 x.f2.length c2, .slice A3 x.f3.length c3, .slice A4 x.f4.length c4] := ⟨[.string x.f0], [.slice A1 x.f1.length c1, .slice A2 x.f2.length c2, .slice A3 x.f3.length c3, .slice A4 x.f4.length c4], rfl, rfl, ⟨[.slice A1 x.f1.length c1], [.slice A2 x.f2.length c2, .slice A3 x.f3.length c3, .slice A4 x.f4.length c4], rfl, ⟨A1, c1, rfl, l1, g1⟩, ⟨[.slice A2 x.f2.length c2], [.slice A3 x.f3.length c3, .slice A4 x.f4.length c4], rfl, ⟨A2, c2, rfl, l2, g2⟩, ⟨[.slice A3 x.f3.length c3], [.slice A4 x.f4.length c4], rfl, ⟨A3, c3, rfl, l3, g3⟩, ⟨A4, c4, rfl, l4, g4⟩⟩⟩⟩⟩
theorem k27_mkM (w : World) (base : Nat) (ok : Nat → Prop) (x : S27) {v1 : Value} (g1 : k48.R 48 w base ok v1 x.f1) {v2 : Value} (g2 : k62.R 62 w base ok v2 x.f2) {v3 : Value} (g3 : k111.R 111 w base ok v3 x.f3) {v4 : Value} (g4 : k111.R 111 w base ok v4 x.f4) : k27.M w base ok x [.string x.f0, v1, v2, v3, v4] := ⟨[.string x.f0], [v1, v2, v3, v4], rfl, rfl, ⟨[v1], [v2, v3, v4], rfl, ⟨v1, rfl, g1⟩, ⟨[v2], [v3, v4], rfl, ⟨v2, rfl, g2⟩, ⟨[v3], [v4], rfl, ⟨v3, rfl, g3⟩, ⟨v4, rfl, g4⟩⟩⟩⟩⟩
theorem k27_openF {W : World} {ok : Nat → Prop} {x : S27} {cs : List Value} (h : Kd.FK k27 W ok x cs) : ∃ A1 c1 A2 c2 A3 c3 A4 c4, cs = [.string x.f0, .slice A1 x.f1.length c1, .slice A2 x.f2.length c2, .slice A3 x.f3.length c3, .slice A4 x.f4.length c4] ∧ x.f1.length ≤ c1 ∧ Kd.F k48 W ok A1 x.f1.length x.f1 ∧ x.f2.length ≤ c2 ∧ Kd.F k62 W ok A2 x.f2.length x.f2 ∧ x.f3.length ≤ c3 ∧ Kd.F k111 W ok A3 x.f3.length x.f3 ∧ x.f4.length ≤ c4 ∧ Kd.F k111 W ok A4 x.f4.length x.f4 := by
  obtain ⟨A1, c1, A2, c2, A3, c3, A4, c4, rfl, l1, _, l2, _, l3, _, l4, _⟩ := k27_open (Kd.FK_now h)
  exact ⟨A1, c1, A2, c2, A3, c3, A4, c4, rfl, l1, (fun W' hW => by obtain ⟨A1_, c1_, A2_, c2_, A3_, c3_, A4_, c4_, he, l1_, g1_, l2_, g2_, l3_, g3_, l4_, g4_⟩ := k27_open (h W' hW); injection (Option.some.inj (show some (Value.slice A1 x.f1.length c1) = some (Value.slice A1_ x.f1.length c1_) from congrArg (fun l => l[1]?) he)) with ha_ _ _; rw [ha_]; exact g1_), l2, (fun W' hW => by obtain ⟨A1_, c1_, A2_, c2_, A3_, c3_, A4_, c4_, he, l1_, g1_, l2_, g2_, l3_, g3_, l4_, g4_⟩ := k27_open (h W' hW); injection (Option.some.inj (show some (Value.slice A2 x.f2.length c2) = some (Value.slice A2_ x.f2.length c2_) from congrArg (fun l => l[2]?) he)) with ha_ _ _; rw [ha_]; exact g2_), l3, (fun W' hW => by obtain ⟨A1_, c1_, A2_, c2_, A3_, c3_, A4_, c4_, he, l1_, g1_, l2_, g2_, l3_, g3_, l4_, g4_⟩ := k27_open (h W' hW); injection (Option.some.inj (show some (Value.slice A3 x.f3.length c3) = some (Value.slice A3_ x.f3.length c3_) from congrArg (fun l => l[3]?) he)) with ha_ _ _; rw [ha_]; exact g3_), l4, (fun W' hW => by obtain ⟨A1_, c1_, A2_, c2_, A3_, c3_, A4_, c4_, he, l1_, g1_, l2_, g2_, l3_, g3_, l4_, g4_⟩ := k27_open (h W' hW); injection (Option.some.inj (show some (Value.slice A4 x.f4.length c4) = some (Value.slice A4_ x.f4.length c4_) from congrArg (fun l => l[4]?) he)) with ha_ _ _; rw [ha_]; exact g4_)⟩
theorem k27_mkF (W : World) (ok : Nat → Prop) (x : S27) {A1 : Option Addr} {c1 : Nat} (l1 : x.f1.length ≤ c1) (g1 : Kd.F k48 W ok A1 x.f1.length x.f1) {A2 : Option Addr} {c2 : Nat} (l2 : x.f2.length ≤ c2) (g2 : Kd.F k62 W ok A2 x.f2.length x.f2) {A3 : Option Addr} {c3 : Nat} (l3 : x.f3.length ≤ c3) (g3 : Kd.F k111 W ok A3 x.f3.length x.f3) {A4 : Option Addr} {c4 : Nat} (l4 : x.f4.length ≤ c4) (g4 : Kd.F k111 W ok A4 x.f4.length x.f4) : Kd.FK k27 W ok x [.string x.f0, .slice A1 x.f1.length c1, .slice A2 x.f2.length c2, .slice A3 x.f3.length c3, .slice A4 x.f4.length c4] := fun W2 hW => k27_mk W2 x l1 (g1 W2 hW) l2 (g2 W2 hW) l3 (g3 W2 hW) l4 (g4 W2 hW)
def rd_T27 (xs : List S27) (i : Int) : S27 := xs.getD i.toNat z27
theorem at_T27 {w : World} {A : Option Addr} {n : Nat} {xs : List S27} (h : Kd.C k27 w A n xs) (i : Int) (h0 : 0 ≤ i) (h1 : i < n) : ∃ ad A1 c1 A2 c2 A3 c3 A4 c4, A = some ad ∧ w.cell? (ad.add (i.toNat * 5)) = some (.string (rd_T27 xs i).f0) ∧ w.cell? ⟨(ad.add (i.toNat * 5)).block, (ad.add (i.toNat * 5)).off + 1, none⟩ = some (.slice A1 (rd_T27 xs i).f1.length c1) ∧ w.cell? ⟨(ad.add (i.toNat * 5)).block, (ad.add (i.toNat * 5)).off + 2, none⟩ = some (.slice A2 (rd_T27 xs i).f2.length c2) ∧ w.cell? ⟨(ad.add (i.toNat * 5)).block, (ad.add (i.toNat * 5)).off + 3, none⟩ = some (.slice A3 (rd_T27 xs i).f3.length c3) ∧ w.cell? ⟨(ad.add (i.toNat * 5)).block, (ad.add (i.toNat * 5)).off + 4, none⟩ = some (.slice A4 (rd_T27 xs i).f4.length c4) ∧ (rd_T27 xs i).f1.length ≤ c1 ∧ k48.C w A1 (rd_T27 xs i).f1.length (rd_T27 xs i).f1 ∧ (rd_T27 xs i).f2.length ≤ c2 ∧ k62.C w A2 (rd_T27 xs i).f2.length (rd_T27 xs i).f2 ∧ (rd_T27 xs i).f3.length ≤ c3 ∧ k111.C w A3 (rd_T27 xs i).f3.length (rd_T27 xs i).f3 ∧ (rd_T27 xs i).f4.length ≤ c4 ∧ k111.C w A4 (rd_T27 xs i).f4.length (rd_T27 xs i).f4 := by
  obtain ⟨ad, c, e, _, hK, hc0⟩ := Kd.C_get h z27 i h0 h1
  have hc : ∀ j u, c[j]? = some u → w.cell? (ad.add (i.toNat * 5 + j)) = some u := hc0
  obtain ⟨A1, c1, A2, c2, A3, c3, A4, c4, rfl, l1, g1, l2, g2, l3, g3, l4, g4⟩ := k27_open hK
  exact ⟨ad, A1, c1, A2, c2, A3, c3, A4, c4, e, hc 0 _ rfl, by rw [← add_field _ _ 1 (by omega)]; exact hc 1 _ rfl, by rw [← add_field _ _ 2 (by omega)]; exact hc 2 _ rfl, by rw [← add_field _ _ 3 (by omega)]; exact hc 3 _ rfl, by rw [← add_field _ _ 4 (by omega)]; exact hc 4 _ rfl, l1, g1, l2, g2, l3, g3, l4, g4⟩

def rd_L15 (xs : List (List Int)) (i : Int) : (List Int) := xs.getD i.toNat ([] : List Int)
theorem at_L15 {w : World} {A : Option Addr} {n : Nat} {xs : List (List Int)} (h : Kd.C (Kd.slice 3 (Kd.int .i64)) w A n xs) (i : Int) (h0 : 0 ≤ i) (h1 : i < n) : ∃ ad A0 c0, A = some ad ∧ w.cell? (ad.add i.toNat) = some (.slice A0 (rd_L15 xs i).length c0) ∧ (rd_L15 xs i).length ≤ c0 ∧ (Kd.int .i64).C w A0 (rd_L15 xs i).length (rd_L15 xs i) := by
  obtain ⟨ad, c, e, _, hK, hc0⟩ := Kd.C_get h ([] : List Int) i h0 h1
  have hc : ∀ j u, c[j]? = some u → w.cell? (ad.add (i.toNat * 1 + j)) = some u := hc0
  obtain ⟨A0, c0, rfl, l0, g0⟩ := hK
  exact ⟨ad, A0, c0, e, by have hq := hc 0 _ rfl; rwa [Nat.mul_one, Nat.add_zero] at hq, l0, g0⟩

def rd_L16 (xs : List (List (List Int))) (i : Int) : (List (List Int)) := xs.getD i.toNat ([] : List (List Int))
theorem at_L16 {w : World} {A : Option Addr} {n : Nat} {xs : List (List (List Int))} (h : Kd.C (Kd.slice 29 (Kd.slice 3 (Kd.int .i64))) w A n xs) (i : Int) (h0 : 0 ≤ i) (h1 : i < n) : ∃ ad A0 c0, A = some ad ∧ w.cell? (ad.add i.toNat) = some (.slice A0 (rd_L16 xs i).length c0) ∧ (rd_L16 xs i).length ≤ c0 ∧ (Kd.slice 3 (Kd.int .i64)).C w A0 (rd_L16 xs i).length (rd_L16 xs i) := by
  obtain ⟨ad, c, e, _, hK, hc0⟩ := Kd.C_get h ([] : List (List Int)) i h0 h1
  have hc : ∀ j u, c[j]? = some u → w.cell? (ad.add (i.toNat * 1 + j)) = some u := hc0
  obtain ⟨A0, c0, rfl, l0, g0⟩ := hK
  exact ⟨ad, A0, c0, e, by have hq := hc 0 _ rfl; rwa [Nat.mul_one, Nat.add_zero] at hq, l0, g0⟩




/-! ### r40_Few: function 9 -/
mutual
def r40_Few.j0 : Nat → List (S51) → Bool → ByteArray → List (S48) → List (S62) → List (S111) → List (S111) → Option (Bool)
 | 0, _, _, _, _, _, _, _ => none
 | k + 1, x0, x22, x102000, x102001, x102002, x102003, x102004 => if x22 = true then (some false) else (r40_Few.l0 k x0 0 x102000 x102001 x102002 x102003 x102004)
def r40_Few.l0 : Nat → List (S51) → Int → ByteArray → List (S48) → List (S62) → List (S111) → List (S111) → Option (Bool)
 | 0, _, _, _, _, _, _, _ => none
 | k + 1, x0, x5, x102000, x102001, x102002, x102003, x102004 => if x5 < (x0.length : Int) then (if 0 ≤ x5 then (if (((rd_T51 x0 x5).f1).length : Int) > 14 then (r40_Few.j2 k x0 x5 true x102000 x102001 x102002 x102003 x102004) else (r40_Few.j2 k x0 x5 (decide ((((rd_T51 x0 x5).f0).size : Int) > 20)) x102000 x102001 x102002 x102003 x102004)) else (none)) else (r40_Few.l2 k 0 x102000 x102001 x102002 x102003 x102004)
def r40_Few.j2 : Nat → List (S51) → Int → Bool → ByteArray → List (S48) → List (S62) → List (S111) → List (S111) → Option (Bool)
 | 0, _, _, _, _, _, _, _, _ => none
 | k + 1, x0, x5, x44, x102000, x102001, x102002, x102003, x102004 => if x44 = true then (some false) else (r40_Few.l1 k x0 x5 0 x102000 x102001 x102002 x102003 x102004)
def r40_Few.l1 : Nat → List (S51) → Int → Int → ByteArray → List (S48) → List (S62) → List (S111) → List (S111) → Option (Bool)
 | 0, _, _, _, _, _, _, _, _ => none
 | k + 1, x0, x5, x6, x102000, x102001, x102002, x102003, x102004 => if 0 ≤ x5 then (if x5 < (x0.length : Int) then (if x6 < (((rd_T51 x0 x5).f1).length : Int) then (if 0 ≤ x6 then (if ((rdOf ByteArray.empty ((rd_T51 x0 x5).f1) x6).size : Int) > 20 then (some false) else (r40_Few.l1 k x0 x5 (wrap64 (x6 + 1)) x102000 x102001 x102002 x102003 x102004)) else (none)) else (r40_Few.l0 k x0 (wrap64 (x5 + 1)) x102000 x102001 x102002 x102003 x102004)) else (none)) else (none)
def r40_Few.l2 : Nat → Int → ByteArray → List (S48) → List (S62) → List (S111) → List (S111) → Option (Bool)
 | 0, _, _, _, _, _, _ => none
 | k + 1, x7, x102000, x102001, x102002, x102003, x102004 => if x7 < (x102001.length : Int) then (if 0 ≤ x7 then (if (((rd_T48 x102001 x7).f0).size : Int) > 20 then (some false) else (r40_Few.l2 k (wrap64 (x7 + 1)) x102000 x102001 x102002 x102003 x102004)) else (none)) else (some true)
end
def r40_Few.f (k : Nat) (l0 : List (S51)) (a1_0 : ByteArray) (l1_1 : List (S48)) (l1_2 : List (S62)) (l1_3 : List (S111)) (l1_4 : List (S111)) : Option (Bool) := if (l0.length : Int) > 10 then (r40_Few.j0 k l0 true a1_0 l1_1 l1_2 l1_3 l1_4) else (if (l1_1.length : Int) > 6 then (r40_Few.j0 k l0 true a1_0 l1_1 l1_2 l1_3 l1_4) else (r40_Few.j0 k l0 (decide ((l1_2.length : Int) > 8)) a1_0 l1_1 l1_2 l1_3 l1_4))
theorem r40_Few.mono_l : ∀ k, (∀ y0 y1 y2 y3 y4 y5 y6, LeO (r40_Few.j0 k y0 y1 y2 y3 y4 y5 y6) (r40_Few.j0 (k + 1) y0 y1 y2 y3 y4 y5 y6)) ∧ (∀ y0 y1 y2 y3 y4 y5 y6, LeO (r40_Few.l0 k y0 y1 y2 y3 y4 y5 y6) (r40_Few.l0 (k + 1) y0 y1 y2 y3 y4 y5 y6)) ∧ (∀ y0 y1 y2 y3 y4 y5 y6 y7, LeO (r40_Few.j2 k y0 y1 y2 y3 y4 y5 y6 y7) (r40_Few.j2 (k + 1) y0 y1 y2 y3 y4 y5 y6 y7)) ∧ (∀ y0 y1 y2 y3 y4 y5 y6 y7, LeO (r40_Few.l1 k y0 y1 y2 y3 y4 y5 y6 y7) (r40_Few.l1 (k + 1) y0 y1 y2 y3 y4 y5 y6 y7)) ∧ (∀ y0 y1 y2 y3 y4 y5, LeO (r40_Few.l2 k y0 y1 y2 y3 y4 y5) (r40_Few.l2 (k + 1) y0 y1 y2 y3 y4 y5))
 | 0 => ⟨fun _ _ _ _ _ _ _ r h => by simp [r40_Few.j0] at h, fun _ _ _ _ _ _ _ r h => by simp [r40_Few.l0] at h, fun _ _ _ _ _ _ _ _ r h => by simp [r40_Few.j2] at h, fun _ _ _ _ _ _ _ _ r h => by simp [r40_Few.l1] at h, fun _ _ _ _ _ _ r h => by simp [r40_Few.l2] at h⟩
 | k + 1 => by
  obtain ⟨ih0, ih1, ih2, ih3, ih4⟩ := r40_Few.mono_l k
  refine ⟨?_, ?_, ?_, ?_, ?_⟩
  ·intro y0 y1 y2 y3 y4 y5 y6
   unfold r40_Few.j0
   repeat' first
   | (with_reducible first | exact ih0 _ _ _ _ _ _ _ | exact ih1 _ _ _ _ _ _ _ | exact ih2 _ _ _ _ _ _ _ _ | exact ih3 _ _ _ _ _ _ _ _ | exact ih4 _ _ _ _ _ _ | exact LeO.refl _ | exact LeO.none _ | refine LeO.ite ?_ ?_ | refine LeO.bind ?_ (fun _ => ?_))
   | exact LeO.none _
   | refine LeO.ite ?_ ?_
   | refine LeO.bind ?_ (fun _ => ?_)
  ·intro y0 y1 y2 y3 y4 y5 y6
   unfold r40_Few.l0
   repeat' first
   | (with_reducible first | exact ih0 _ _ _ _ _ _ _ | exact ih1 _ _ _ _ _ _ _ | exact ih2 _ _ _ _ _ _ _ _ | exact ih3 _ _ _ _ _ _ _ _ | exact ih4 _ _ _ _ _ _ | exact LeO.refl _ | exact LeO.none _ | refine LeO.ite ?_ ?_ | refine LeO.bind ?_ (fun _ => ?_))
   | exact LeO.none _
   | refine LeO.ite ?_ ?_
   | refine LeO.bind ?_ (fun _ => ?_)
  ·intro y0 y1 y2 y3 y4 y5 y6 y7
   unfold r40_Few.j2
   repeat' first
   | (with_reducible first | exact ih0 _ _ _ _ _ _ _ | exact ih1 _ _ _ _ _ _ _ | exact ih2 _ _ _ _ _ _ _ _ | exact ih3 _ _ _ _ _ _ _ _ | exact ih4 _ _ _ _ _ _ | exact LeO.refl _ | exact LeO.none _ | refine LeO.ite ?_ ?_ | refine LeO.bind ?_ (fun _ => ?_))
   | exact LeO.none _
   | refine LeO.ite ?_ ?_
   | refine LeO.bind ?_ (fun _ => ?_)
  ·intro y0 y1 y2 y3 y4 y5 y6 y7
   unfold r40_Few.l1
   repeat' first
   | (with_reducible first | exact ih0 _ _ _ _ _ _ _ | exact ih1 _ _ _ _ _ _ _ | exact ih2 _ _ _ _ _ _ _ _ | exact ih3 _ _ _ _ _ _ _ _ | exact ih4 _ _ _ _ _ _ | exact LeO.refl _ | exact LeO.none _ | refine LeO.ite ?_ ?_ | refine LeO.bind ?_ (fun _ => ?_))
   | exact LeO.none _
   | refine LeO.ite ?_ ?_
   | refine LeO.bind ?_ (fun _ => ?_)
  ·intro y0 y1 y2 y3 y4 y5
   unfold r40_Few.l2
   repeat' first
   | (with_reducible first | exact ih0 _ _ _ _ _ _ _ | exact ih1 _ _ _ _ _ _ _ | exact ih2 _ _ _ _ _ _ _ _ | exact ih3 _ _ _ _ _ _ _ _ | exact ih4 _ _ _ _ _ _ | exact LeO.refl _ | exact LeO.none _ | refine LeO.ite ?_ ?_ | refine LeO.bind ?_ (fun _ => ?_))
   | exact LeO.none _
   | refine LeO.ite ?_ ?_
   | refine LeO.bind ?_ (fun _ => ?_)
theorem r40_Few.mono : ∀ a0 a1 a2 a3 a4 a5 k, LeO (r40_Few.f k a0 a1 a2 a3 a4 a5) (r40_Few.f (k + 1) a0 a1 a2 a3 a4 a5) := by
 intro a0 a1 a2 a3 a4 a5 k
 obtain ⟨ih0, ih1, ih2, ih3, ih4⟩ := r40_Few.mono_l k
 unfold r40_Few.f
 repeat' first
   | (with_reducible first | exact ih0 _ _ _ _ _ _ _ | exact ih1 _ _ _ _ _ _ _ | exact ih2 _ _ _ _ _ _ _ _ | exact ih3 _ _ _ _ _ _ _ _ | exact ih4 _ _ _ _ _ _ | exact LeO.refl _ | exact LeO.none _ | refine LeO.ite ?_ ?_ | refine LeO.bind ?_ (fun _ => ?_))
   | exact LeO.none _
   | refine LeO.ite ?_ ?_
   | refine LeO.bind ?_ (fun _ => ?_)
set_option maxHeartbeats 8000000 in
set_option maxRecDepth 100000 in
theorem r40_Few.calls (k : Nat) (A0 : Option Addr) (c0 : Nat) (l0 : List (S51)) (a1_0 : ByteArray) (A1_1 : Option Addr) (c1_1 : Nat) (l1_1 : List (S48)) (A1_2 : Option Addr) (c1_2 : Nat) (l1_2 : List (S62)) (A1_3 : Option Addr) (c1_3 : Nat) (l1_3 : List (S111)) (A1_4 : Option Addr) (c1_4 : Nat) (l1_4 : List (S111)) (r : Bool) (w : World) (hr0 : Kd.C k51 w A0 l0.length l0) (hc0 : l0.length ≤ c0) (hr1_1 : Kd.C k48 w A1_1 l1_1.length l1_1) (hc1_1 : l1_1.length ≤ c1_1) (hr1_2 : Kd.C k62 w A1_2 l1_2.length l1_2) (hc1_2 : l1_2.length ≤ c1_2) (hr1_3 : Kd.C k111 w A1_3 l1_3.length l1_3) (hc1_3 : l1_3.length ≤ c1_3) (hr1_4 : Kd.C k111 w A1_4 l1_4.length l1_4) (hc1_4 : l1_4.length ≤ c1_4) (h : r40_Few.f k l0 a1_0 l1_1 l1_2 l1_3 l1_4 = some r) :
  Calls Try.prog 9 #[.slice A0 l0.length c0, .agg #[.string a1_0, .slice A1_1 l1_1.length c1_1, .slice A1_2 l1_2.length c1_2, .slice A1_3 l1_3.length c1_3, .slice A1_4 l1_4.length c1_4]] w fun e w' => e = .returned (.bool r) ∧ Below w.heap.size w w' := by
 have hu27 := Try.underlying27; have hu9 := Try.underlying9; have hu23 := Try.underlying23; have hu24 := Try.underlying24; have hu25 := Try.underlying25; have HR0 := aM hr0; have HC0 := aM hc0; clear hr0 hc0; have HR1_1 := aM hr1_1; have HC1_1 := aM hc1_1; clear hr1_1 hc1_1; have HR1_2 := aM hr1_2; have HC1_2 := aM hc1_2; clear hr1_2 hc1_2; have HR1_3 := aM hr1_3; have HC1_3 := aM hc1_3; clear hr1_3 hc1_3; have HR1_4 := aM hr1_4; have HC1_4 := aM hc1_4; clear hr1_4 hc1_4; have HB := aM (Below.refl w.heap.size w)
 have H : (if (l0.length : Int) > 10 then (r40_Few.j0 k l0 true a1_0 l1_1 l1_2 l1_3 l1_4) else (if (l1_1.length : Int) > 6 then (r40_Few.j0 k l0 true a1_0 l1_1 l1_2 l1_3 l1_4) else (r40_Few.j0 k l0 (decide ((l1_2.length : Int) > 8)) a1_0 l1_1 l1_2 l1_3 l1_4))) = some r := h
 clear h; have HC3 := aM H; clear H
 go_enter Try.func9, Try.ntmps9
 go_upto_region 1 with (first | ((with_reducible refine gate_dst (N := 3) rfl ?_); (try (refine gate_guard (by rfl) ?_; dsimp only)); refine box_event ?hg (N := 3) ?hd (cs := #[.string a1_0, .slice A1_1 l1_1.length c1_1, .slice A1_2 l1_2.length c1_2, .slice A1_3 l1_3.length c1_3, .slice A1_4 l1_4.length c1_4]) (t := 27) ?hr ?_; (case hd => rfl); (case hg => rfl); (case hr => first | (go_simp; done) | (go_simp; rfl)); intro gb101 hg w4 hbox hb; have n0_ := aM (below_step (bB HB.out) hb); have n1_ := aM (hbox); have n2_ := aM ((by rw [hg]; exact (below_size (bB HB.out)) : w.heap.size ≤ gb101)); have n3_ := aM ((by rw [hg]; exact (below_size (bB HB.out)) : w.heap.size ≤ gb101)); clear HB; have HB := n0_; have BK101 := n1_; have GW101 := n2_; have GE101 := n3_; clear n0_ n1_ n2_ n3_; clear hb hbox hg))
 (try simp only [Act.put, List.setIfInBounds_toArray, List.set_cons_zero, List.set_cons_succ])
 go_cut [22] (fun v22 wc => ∃ (kq : Nat) (x22_2 : Bool), v22 = .bool x22_2 ∧ Aside0 (r40_Few.j0 kq l0 x22_2 a1_0 l1_1 l1_2 l1_3 l1_4 = some r) ∧ Aside0 (kq ≤ k) ∧ Aside0 (wc.heap[gb101]? = some (.cells #[.string a1_0, (.slice A1_1 l1_1.length c1_1), (.slice A1_2 l1_2.length c1_2), (.slice A1_3 l1_3.length c1_3), (.slice A1_4 l1_4.length c1_4)] 27 (0, 0))) ∧ Aside0 (Below w.heap.size w wc))
 case first =>
  have H := HC3.out; clear HC3
  by_cases c5 : (l0.length : Int) > 10
  ·rw [if_pos c5] at H
   have c5b0 : decide (10 < (l0.length : Int)) = true := decide_eq_true c5; have c5b1 : decide (10 < l0.length) = true := decide_eq_true (by omega); clear c5
   (first | rw [c5b0] | (simp only [i64_w, i32_w]; rw [c5b0]) | skip)
   have H' := aM H
   clear H
   go_wp2
   go_meet
   case rel => exact ⟨_, (true), eT, H', ⟨by first | omega | exact Nat.le_refl _⟩, ⟨kB BK101.out⟩, ⟨bB1 HB.out GE101.out⟩⟩
  ·rw [if_neg c5] at H
   have c5b0 : decide (10 < (l0.length : Int)) = false := decide_eq_false c5; have c5b1 : decide (10 < l0.length) = false := decide_eq_false (by omega); clear c5
   (first | rw [c5b0] | (simp only [i64_w, i32_w]; rw [c5b0]) | skip)
   by_cases c6 : (l1_1.length : Int) > 6
   ·rw [if_pos c6] at H
    have c6b0 : decide (6 < (l1_1.length : Int)) = true := decide_eq_true c6; have c6b1 : decide (6 < l1_1.length) = true := decide_eq_true (by omega); clear c6
    have H' := aM H
    clear H
    have hcz7_0 : w4.cell? ⟨gb101, 0, none⟩ = some (.string a1_0) := (blk_cell BK101.out 0).trans rfl
    have hcz7_1 : w4.cell? ⟨gb101, 1, none⟩ = some (.slice A1_1 l1_1.length c1_1) := (blk_cell BK101.out 1).trans rfl
    have hcz7_2 : w4.cell? ⟨gb101, 2, none⟩ = some (.slice A1_2 l1_2.length c1_2) := (blk_cell BK101.out 2).trans rfl
    have hcz7_3 : w4.cell? ⟨gb101, 3, none⟩ = some (.slice A1_3 l1_3.length c1_3) := (blk_cell BK101.out 3).trans rfl
    have hcz7_4 : w4.cell? ⟨gb101, 4, none⟩ = some (.slice A1_4 l1_4.length c1_4) := (blk_cell BK101.out 4).trans rfl
    have hfz7_0 := blk_frozen BK101.out 0; have hfz7_1 := blk_frozen BK101.out 1; have hfz7_2 := blk_frozen BK101.out 2; have hfz7_3 := blk_frozen BK101.out 3; have hfz7_4 := blk_frozen BK101.out 4
    go_wp2
    go_meet
    case rel => exact ⟨_, (true), eT, H', ⟨by first | omega | exact Nat.le_refl _⟩, ⟨kB BK101.out⟩, ⟨bB1 HB.out GE101.out⟩⟩
   ·rw [if_neg c6] at H
    have c6b0 : decide (6 < (l1_1.length : Int)) = false := decide_eq_false c6; have c6b1 : decide (6 < l1_1.length) = false := decide_eq_false (by omega); clear c6
    have H' := aM H
    clear H
    have hcz8_0 : w4.cell? ⟨gb101, 0, none⟩ = some (.string a1_0) := (blk_cell BK101.out 0).trans rfl
    have hcz8_1 : w4.cell? ⟨gb101, 1, none⟩ = some (.slice A1_1 l1_1.length c1_1) := (blk_cell BK101.out 1).trans rfl
    have hcz8_2 : w4.cell? ⟨gb101, 2, none⟩ = some (.slice A1_2 l1_2.length c1_2) := (blk_cell BK101.out 2).trans rfl
    have hcz8_3 : w4.cell? ⟨gb101, 3, none⟩ = some (.slice A1_3 l1_3.length c1_3) := (blk_cell BK101.out 3).trans rfl
    have hcz8_4 : w4.cell? ⟨gb101, 4, none⟩ = some (.slice A1_4 l1_4.length c1_4) := (blk_cell BK101.out 4).trans rfl
    have hfz8_0 := blk_frozen BK101.out 0; have hfz8_1 := blk_frozen BK101.out 1; have hfz8_2 := blk_frozen BK101.out 2; have hfz8_3 := blk_frozen BK101.out 3; have hfz8_4 := blk_frozen BK101.out 4
    go_wp2
    go_meet
    case rel => exact ⟨_, (decide ((l1_2.length : Int) > 8)), eT, H', ⟨by first | omega | exact Nat.le_refl _⟩, ⟨kB BK101.out⟩, ⟨bB1 HB.out GE101.out⟩⟩
 case rest =>
  clear HC3; obtain ⟨kq, x22_2, rfl, HA, HJ2, BK101, HB⟩ := hcut
  cases kq with
  | zero => exact absurd HA.out (by simp [r40_Few.j0])
  | succ kj2 =>
   have H := HA.out; clear HA
   simp only [r40_Few.j0] at H
   by_cases c9 : x22_2 = true
   ·subst c9
    have H1 : (some false) = some r := by rw [if_pos rfl] at H; exact H
    clear H; have H := H1; clear H1
    obtain rfl := Option.some.inj H
    go_wp2
    go_ret
    exact ⟨rT, bB1 HB.out GE101.out⟩
   ·replace c9 := Bool.eq_false_iff.mpr c9
    subst c9
    have H1 : (r40_Few.l0 kj2 l0 0 a1_0 l1_1 l1_2 l1_3 l1_4) = some r := by rw [if_neg (show ¬ (false = true) by decide)] at H; exact H
    clear H; have H := H1; clear H1
    have H' := aM H
    clear H
    go_wp2
    go_loopg [5] kj2 (fun kq v5 w' => ∃ (x5_2 : Int), v5 = .int .i64 x5_2 ∧ Aside0 (r40_Few.l0 kq l0 x5_2 a1_0 l1_1 l1_2 l1_3 l1_4 = some r) ∧ Aside0 (kq ≤ kj2) ∧ Aside0 (w'.heap[gb101]? = some (.cells #[.string a1_0, (.slice A1_1 l1_1.length c1_1), (.slice A1_2 l1_2.length c1_2), (.slice A1_3 l1_3.length c1_3), (.slice A1_4 l1_4.length c1_4)] 27 (0, 0))) ∧ Aside0 (Below w.heap.size w w'))
    case atStart => exact ⟨(0), eT, H', ⟨Nat.le_refl _⟩, ⟨kB BK101.out⟩, ⟨bB1 HB.out GE101.out⟩⟩
    case round =>
     clear H'; obtain ⟨x5_2, rfl, HA, HK2, BK101, HB⟩ := hrel
     cases gk with
     | zero => exact absurd HA.out (by simp [r40_Few.l0])
     | succ k2 =>
      have H := HA.out; clear HA
      simp only [r40_Few.l0] at H
      by_cases c10 : x5_2 < (l0.length : Int)
      ·rw [if_pos c10] at H
       have c10b0 : decide (x5_2 < (l0.length : Int)) = true := decide_eq_true c10; clear c10; have HC11 := aM H; clear H
       go_upto_region 6 with (fail)
       go_cut [44] (fun v44 wc => ∃ (kq : Nat) (x44_10 : Bool), v44 = .bool x44_10 ∧ Aside0 (r40_Few.j2 kq l0 x5_2 x44_10 a1_0 l1_1 l1_2 l1_3 l1_4 = some r) ∧ Aside0 (kq ≤ k2) ∧ Aside0 (wc.heap[gb101]? = some (.cells #[.string a1_0, (.slice A1_1 l1_1.length c1_1), (.slice A1_2 l1_2.length c1_2), (.slice A1_3 l1_3.length c1_3), (.slice A1_4 l1_4.length c1_4)] 27 (0, 0))) ∧ Aside0 (Below w.heap.size w wc))
       case first =>
        have H := HC11.out; clear HC11
        by_cases c12 : 0 ≤ x5_2
        ·rw [if_pos c12] at H
         have c12b0 : decide (0 ≤ x5_2) = true := decide_eq_true c12; clear c12
         (first | rw [c12b0] | (simp only [i64_w, i32_w]; rw [c12b0]) | skip)
         by_cases c13 : (((rd_T51 l0 x5_2).f1).length : Int) > 14
         ·rw [if_pos c13] at H
          have c13b0 : decide (14 < (((rd_T51 l0 x5_2).f1).length : Int)) = true := decide_eq_true c13; have c13b1 : decide (14 < ((rd_T51 l0 x5_2).f1).length) = true := decide_eq_true (by omega); clear c13
          have H' := aM H
          clear H; have p102 : 0 ≤ (x5_2 : Int) := dT; have q102 : x5_2 < (l0.length : Int) := dT; obtain ⟨ad102, A102_1, c102_1, e102, hx102_0, hx102_1, hl102_1, hi102_1⟩ := at_T51 HR0.out x5_2 p102 q102; cases e102
          try replace hx102_0 := (HB.out.cell (World.block_lt_of_cell? w _ hx102_0)).trans hx102_0
          try replace hx102_1 := (HB.out.cell (World.block_lt_of_cell? w _ hx102_1)).trans hx102_1
          have HR102_1 := aM hi102_1; have HC102_1 := aM hl102_1; clear hi102_1 hl102_1; replace p102 := eq_true p102; replace q102 := eq_true q102
          go_wp2
          go_meet
          case rel => exact ⟨_, (true), eT, H', ⟨by have := HJ2.out; have := HK2.out; first | omega | exact Nat.le_refl _⟩, ⟨kB BK101.out⟩, ⟨bB1 HB.out GE101.out⟩⟩
         ·rw [if_neg c13] at H
          have c13b0 : decide (14 < (((rd_T51 l0 x5_2).f1).length : Int)) = false := decide_eq_false c13; have c13b1 : decide (14 < ((rd_T51 l0 x5_2).f1).length) = false := decide_eq_false (by omega); clear c13
          have H' := aM H
          clear H; have p102 : 0 ≤ (x5_2 : Int) := dT; have q102 : x5_2 < (l0.length : Int) := dT; obtain ⟨ad102, A102_1, c102_1, e102, hx102_0, hx102_1, hl102_1, hi102_1⟩ := at_T51 HR0.out x5_2 p102 q102; cases e102
          try replace hx102_0 := (HB.out.cell (World.block_lt_of_cell? w _ hx102_0)).trans hx102_0
          try replace hx102_1 := (HB.out.cell (World.block_lt_of_cell? w _ hx102_1)).trans hx102_1
          have HR102_1 := aM hi102_1; have HC102_1 := aM hl102_1; clear hi102_1 hl102_1; replace p102 := eq_true p102; replace q102 := eq_true q102; have p103 : 0 ≤ (x5_2 : Int) := dT; have q103 : x5_2 < (l0.length : Int) := dT; obtain ⟨ad103, A103_1, c103_1, e103, hx103_0, hx103_1, hl103_1, hi103_1⟩ := at_T51 HR0.out x5_2 p103 q103; obtain rfl : ad102 = ad103 := (by injection e103)
          try replace hx103_0 := (HB.out.cell (World.block_lt_of_cell? w _ hx103_0)).trans hx103_0
          try replace hx103_1 := (HB.out.cell (World.block_lt_of_cell? w _ hx103_1)).trans hx103_1
          have HR103_1 := aM hi103_1; have HC103_1 := aM hl103_1; clear hi103_1 hl103_1; replace p103 := eq_true p103; replace q103 := eq_true q103; have ea_ := Option.some.inj (hx102_1.symm.trans hx103_1); injection ea_ with ea_ en_ ec_; subst ea_; subst ec_; clear en_
          go_wp2
          go_meet
          case rel => exact ⟨_, (decide ((((rd_T51 l0 x5_2).f0).size : Int) > 20)), eT, H', ⟨by have := HJ2.out; have := HK2.out; first | omega | exact Nat.le_refl _⟩, ⟨kB BK101.out⟩, ⟨bB1 HB.out GE101.out⟩⟩
        ·rw [if_neg c12] at H
         exact absurd H (by simp)
       case rest =>
        clear HC11
        try clear hx1
        try clear hx10
        try clear hx102_0
        try clear hx102_1
        try clear hx103_0
        try clear hx103_1
        obtain ⟨kq, x44_10, rfl, HA, HJ10, BK101, HB⟩ := hcut
        cases kq with
        | zero => exact absurd HA.out (by simp [r40_Few.j2])
        | succ kj10 =>
         have H := HA.out; clear HA
         simp only [r40_Few.j2] at H
         by_cases c14 : x44_10 = true
         ·subst c14
          have H1 : (some false) = some r := by rw [if_pos rfl] at H; exact H
          clear H; have H := H1; clear H1
          obtain rfl := Option.some.inj H
          go_wp2
          go_ret
          exact ⟨rT, bB1 HB.out GE101.out⟩
         ·replace c14 := Bool.eq_false_iff.mpr c14
          subst c14
          have H1 : (r40_Few.l1 kj10 l0 x5_2 0 a1_0 l1_1 l1_2 l1_3 l1_4) = some r := by rw [if_neg (show ¬ (false = true) by decide)] at H; exact H
          clear H; have H := H1; clear H1
          have H' := aM H
          clear H
          go_wp2
          go_loopg [6] kj10 (fun kq v6 w' => ∃ (x6_4 : Int), v6 = .int .i64 x6_4 ∧ Aside0 (r40_Few.l1 kq l0 x5_2 x6_4 a1_0 l1_1 l1_2 l1_3 l1_4 = some r) ∧ Aside0 (kq ≤ kj10) ∧ Aside0 (w'.heap[gb101]? = some (.cells #[.string a1_0, (.slice A1_1 l1_1.length c1_1), (.slice A1_2 l1_2.length c1_2), (.slice A1_3 l1_3.length c1_3), (.slice A1_4 l1_4.length c1_4)] 27 (0, 0))) ∧ Aside0 (Below w.heap.size w w'))
          case atStart => exact ⟨(0), eT, H', ⟨Nat.le_refl _⟩, ⟨kB BK101.out⟩, ⟨bB1 HB.out GE101.out⟩⟩
          case round =>
           clear H'
           try clear hx1
           try clear hx10
           try clear hx102_0
           try clear hx102_1
           try clear hx103_0
           try clear hx103_1
           obtain ⟨x6_4, rfl, HA, HK4, BK101, HB⟩ := hrel
           cases gk with
           | zero => exact absurd HA.out (by simp [r40_Few.l1])
           | succ k4 =>
            have H := HA.out; clear HA
            simp only [r40_Few.l1] at H
            by_cases c15 : 0 ≤ x5_2
            ·rw [if_pos c15] at H
             have c15b0 : decide (0 ≤ x5_2) = true := decide_eq_true c15; clear c15
             by_cases c16 : x5_2 < (l0.length : Int)
             ·rw [if_pos c16] at H
              have c16b0 : decide (x5_2 < (l0.length : Int)) = true := decide_eq_true c16; clear c16
              by_cases c17 : x6_4 < (((rd_T51 l0 x5_2).f1).length : Int)
              ·rw [if_pos c17] at H
               have c17b0 : decide (x6_4 < (((rd_T51 l0 x5_2).f1).length : Int)) = true := decide_eq_true c17; clear c17
               by_cases c18 : 0 ≤ x6_4
               ·rw [if_pos c18] at H
                have c18b0 : decide (0 ≤ x6_4) = true := decide_eq_true c18; clear c18
                by_cases c19 : ((rdOf ByteArray.empty ((rd_T51 l0 x5_2).f1) x6_4).size : Int) > 20
                ·rw [if_pos c19] at H
                 have c19b0 : decide (20 < ((rdOf ByteArray.empty ((rd_T51 l0 x5_2).f1) x6_4).size : Int)) = true := decide_eq_true c19; have c19b1 : decide (20 < (rdOf ByteArray.empty ((rd_T51 l0 x5_2).f1) x6_4).size) = true := decide_eq_true (by omega); clear c19
                 obtain rfl := Option.some.inj H
                 have p104 : 0 ≤ (x5_2 : Int) := dT; have q104 : x5_2 < (l0.length : Int) := dT; obtain ⟨ad104, A104_1, c104_1, e104, hx104_0, hx104_1, hl104_1, hi104_1⟩ := at_T51 HR0.out x5_2 p104 q104; cases e104
                 try replace hx104_0 := (HB.out.cell (World.block_lt_of_cell? w _ hx104_0)).trans hx104_0
                 try replace hx104_1 := (HB.out.cell (World.block_lt_of_cell? w _ hx104_1)).trans hx104_1
                 have HR104_1 := aM hi104_1; have HC104_1 := aM hl104_1; clear hi104_1 hl104_1; replace p104 := eq_true p104; replace q104 := eq_true q104; have p105 : 0 ≤ (x5_2 : Int) := dT; have q105 : x5_2 < (l0.length : Int) := dT; obtain ⟨ad105, A105_1, c105_1, e105, hx105_0, hx105_1, hl105_1, hi105_1⟩ := at_T51 HR0.out x5_2 p105 q105; obtain rfl : ad104 = ad105 := (by injection e105)
                 try replace hx105_0 := (HB.out.cell (World.block_lt_of_cell? w _ hx105_0)).trans hx105_0
                 try replace hx105_1 := (HB.out.cell (World.block_lt_of_cell? w _ hx105_1)).trans hx105_1
                 have HR105_1 := aM hi105_1; have HC105_1 := aM hl105_1; clear hi105_1 hl105_1; replace p105 := eq_true p105; replace q105 := eq_true q105; have ea_ := Option.some.inj (hx104_1.symm.trans hx105_1); injection ea_ with ea_ en_ ec_; subst ea_; subst ec_; clear en_; have p106 : 0 ≤ (x6_4 : Int) := dT; have q106 : x6_4 < (((rd_T51 l0 x5_2).f1).length : Int) := dT; obtain ⟨ad106, e106, hx106_0⟩ := Kd.at_string HR105_1.out x6_4 p106 q106; cases e106
                 try replace hx106_0 := (HB.out.cell (World.block_lt_of_cell? w _ hx106_0)).trans hx106_0
                 replace p106 := eq_true p106; replace q106 := eq_true q106
                 go_wp2
                 go_ret
                 exact ⟨rT, bB1 HB.out GE101.out⟩
                ·rw [if_neg c19] at H
                 have c19b0 : decide (20 < ((rdOf ByteArray.empty ((rd_T51 l0 x5_2).f1) x6_4).size : Int)) = false := decide_eq_false c19; have c19b1 : decide (20 < (rdOf ByteArray.empty ((rd_T51 l0 x5_2).f1) x6_4).size) = false := decide_eq_false (by omega); clear c19
                 have H' := aM H
                 clear H; have p104 : 0 ≤ (x5_2 : Int) := dT; have q104 : x5_2 < (l0.length : Int) := dT; obtain ⟨ad104, A104_1, c104_1, e104, hx104_0, hx104_1, hl104_1, hi104_1⟩ := at_T51 HR0.out x5_2 p104 q104; cases e104
                 try replace hx104_0 := (HB.out.cell (World.block_lt_of_cell? w _ hx104_0)).trans hx104_0
                 try replace hx104_1 := (HB.out.cell (World.block_lt_of_cell? w _ hx104_1)).trans hx104_1
                 have HR104_1 := aM hi104_1; have HC104_1 := aM hl104_1; clear hi104_1 hl104_1; replace p104 := eq_true p104; replace q104 := eq_true q104; have p105 : 0 ≤ (x5_2 : Int) := dT; have q105 : x5_2 < (l0.length : Int) := dT; obtain ⟨ad105, A105_1, c105_1, e105, hx105_0, hx105_1, hl105_1, hi105_1⟩ := at_T51 HR0.out x5_2 p105 q105; obtain rfl : ad104 = ad105 := (by injection e105)
                 try replace hx105_0 := (HB.out.cell (World.block_lt_of_cell? w _ hx105_0)).trans hx105_0
                 try replace hx105_1 := (HB.out.cell (World.block_lt_of_cell? w _ hx105_1)).trans hx105_1
                 have HR105_1 := aM hi105_1; have HC105_1 := aM hl105_1; clear hi105_1 hl105_1; replace p105 := eq_true p105; replace q105 := eq_true q105; have ea_ := Option.some.inj (hx104_1.symm.trans hx105_1); injection ea_ with ea_ en_ ec_; subst ea_; subst ec_; clear en_; have p106 : 0 ≤ (x6_4 : Int) := dT; have q106 : x6_4 < (((rd_T51 l0 x5_2).f1).length : Int) := dT; obtain ⟨ad106, e106, hx106_0⟩ := Kd.at_string HR105_1.out x6_4 p106 q106; cases e106
                 try replace hx106_0 := (HB.out.cell (World.block_lt_of_cell? w _ hx106_0)).trans hx106_0
                 replace p106 := eq_true p106; replace q106 := eq_true q106
                 go_wp2
                 go_roundg k4
                 case measure => have := HJ2.out; have := HK2.out; have := HJ10.out; have := HK4.out; omega
                 case rel => exact ⟨(wrap64 (x6_4 + 1)), eT, H', ⟨by have := HJ2.out; have := HK2.out; have := HJ10.out; have := HK4.out; omega⟩, ⟨kB BK101.out⟩, ⟨bB1 HB.out GE101.out⟩⟩
               ·rw [if_neg c18] at H
                exact absurd H (by simp)
              ·rw [if_neg c17] at H
               have c17b0 : decide (x6_4 < (((rd_T51 l0 x5_2).f1).length : Int)) = false := decide_eq_false c17; clear c17
               have H' := aM H
               clear H; have p104 : 0 ≤ (x5_2 : Int) := dT; have q104 : x5_2 < (l0.length : Int) := dT; obtain ⟨ad104, A104_1, c104_1, e104, hx104_0, hx104_1, hl104_1, hi104_1⟩ := at_T51 HR0.out x5_2 p104 q104; cases e104
               try replace hx104_0 := (HB.out.cell (World.block_lt_of_cell? w _ hx104_0)).trans hx104_0
               try replace hx104_1 := (HB.out.cell (World.block_lt_of_cell? w _ hx104_1)).trans hx104_1
               have HR104_1 := aM hi104_1; have HC104_1 := aM hl104_1; clear hi104_1 hl104_1; replace p104 := eq_true p104; replace q104 := eq_true q104
               go_wp2
               go_roundg k4
               case measure => have := HJ2.out; have := HK2.out; have := HJ10.out; have := HK4.out; omega
               case rel => exact ⟨(wrap64 (x5_2 + 1)), eT, H', ⟨by have := HJ2.out; have := HK2.out; have := HJ10.out; have := HK4.out; omega⟩, ⟨kB BK101.out⟩, ⟨bB1 HB.out GE101.out⟩⟩
             ·rw [if_neg c16] at H
              exact absurd H (by simp)
            ·rw [if_neg c15] at H
             exact absurd H (by simp)
      ·rw [if_neg c10] at H
       have c10b0 : decide (x5_2 < (l0.length : Int)) = false := decide_eq_false c10; clear c10
       have H' := aM H
       clear H
       go_wp2
       go_loopg [7] k2 (fun kq v7 w' => ∃ (x7_3 : Int), v7 = .int .i64 x7_3 ∧ Aside0 (r40_Few.l2 kq x7_3 a1_0 l1_1 l1_2 l1_3 l1_4 = some r) ∧ Aside0 (kq ≤ k2) ∧ Aside0 (w'.heap[gb101]? = some (.cells #[.string a1_0, (.slice A1_1 l1_1.length c1_1), (.slice A1_2 l1_2.length c1_2), (.slice A1_3 l1_3.length c1_3), (.slice A1_4 l1_4.length c1_4)] 27 (0, 0))) ∧ Aside0 (Below w.heap.size w w'))
       case atStart => exact ⟨(0), eT, H', ⟨Nat.le_refl _⟩, ⟨kB BK101.out⟩, ⟨bB1 HB.out GE101.out⟩⟩
       case round =>
        clear H'
        try clear hx1
        try clear hx10
        try clear hx102_0
        try clear hx102_1
        try clear hx103_0
        try clear hx103_1
        try clear hx104_0
        try clear hx104_1
        try clear hx105_0
        try clear hx105_1
        try clear hx106_0
        obtain ⟨x7_3, rfl, HA, HK3, BK101, HB⟩ := hrel
        cases gk with
        | zero => exact absurd HA.out (by simp [r40_Few.l2])
        | succ k3 =>
         have H := HA.out; clear HA
         simp only [r40_Few.l2] at H
         by_cases c20 : x7_3 < (l1_1.length : Int)
         ·rw [if_pos c20] at H
          have c20b0 : decide (x7_3 < (l1_1.length : Int)) = true := decide_eq_true c20; clear c20
          by_cases c21 : 0 ≤ x7_3
          ·rw [if_pos c21] at H
           have c21b0 : decide (0 ≤ x7_3) = true := decide_eq_true c21; clear c21
           by_cases c22 : (((rd_T48 l1_1 x7_3).f0).size : Int) > 20
           ·rw [if_pos c22] at H
            have c22b0 : decide (20 < (((rd_T48 l1_1 x7_3).f0).size : Int)) = true := decide_eq_true c22; have c22b1 : decide (20 < ((rd_T48 l1_1 x7_3).f0).size) = true := decide_eq_true (by omega); clear c22
            obtain rfl := Option.some.inj H
            have hcz23_0 : wr.cell? ⟨gb101, 0, none⟩ = some (.string a1_0) := (blk_cell BK101.out 0).trans rfl
            have hcz23_1 : wr.cell? ⟨gb101, 1, none⟩ = some (.slice A1_1 l1_1.length c1_1) := (blk_cell BK101.out 1).trans rfl
            have hcz23_2 : wr.cell? ⟨gb101, 2, none⟩ = some (.slice A1_2 l1_2.length c1_2) := (blk_cell BK101.out 2).trans rfl
            have hcz23_3 : wr.cell? ⟨gb101, 3, none⟩ = some (.slice A1_3 l1_3.length c1_3) := (blk_cell BK101.out 3).trans rfl
            have hcz23_4 : wr.cell? ⟨gb101, 4, none⟩ = some (.slice A1_4 l1_4.length c1_4) := (blk_cell BK101.out 4).trans rfl
            have hfz23_0 := blk_frozen BK101.out 0; have hfz23_1 := blk_frozen BK101.out 1; have hfz23_2 := blk_frozen BK101.out 2; have hfz23_3 := blk_frozen BK101.out 3; have hfz23_4 := blk_frozen BK101.out 4; have p107 : 0 ≤ (x7_3 : Int) := dT; have q107 : x7_3 < (l1_1.length : Int) := dT; obtain ⟨ad107, e107, hx107_0, hx107_1⟩ := at_T48 HR1_1.out x7_3 p107 q107; cases e107
            try replace hx107_0 := (HB.out.cell (World.block_lt_of_cell? w _ hx107_0)).trans hx107_0
            try replace hx107_1 := (HB.out.cell (World.block_lt_of_cell? w _ hx107_1)).trans hx107_1
            replace p107 := eq_true p107; replace q107 := eq_true q107
            go_wp2
            go_ret
            exact ⟨rT, bB1 HB.out GE101.out⟩
           ·rw [if_neg c22] at H
            have c22b0 : decide (20 < (((rd_T48 l1_1 x7_3).f0).size : Int)) = false := decide_eq_false c22; have c22b1 : decide (20 < ((rd_T48 l1_1 x7_3).f0).size) = false := decide_eq_false (by omega); clear c22
            have H' := aM H
            clear H
            have hcz24_0 : wr.cell? ⟨gb101, 0, none⟩ = some (.string a1_0) := (blk_cell BK101.out 0).trans rfl
            have hcz24_1 : wr.cell? ⟨gb101, 1, none⟩ = some (.slice A1_1 l1_1.length c1_1) := (blk_cell BK101.out 1).trans rfl
            have hcz24_2 : wr.cell? ⟨gb101, 2, none⟩ = some (.slice A1_2 l1_2.length c1_2) := (blk_cell BK101.out 2).trans rfl
            have hcz24_3 : wr.cell? ⟨gb101, 3, none⟩ = some (.slice A1_3 l1_3.length c1_3) := (blk_cell BK101.out 3).trans rfl
            have hcz24_4 : wr.cell? ⟨gb101, 4, none⟩ = some (.slice A1_4 l1_4.length c1_4) := (blk_cell BK101.out 4).trans rfl
            have hfz24_0 := blk_frozen BK101.out 0; have hfz24_1 := blk_frozen BK101.out 1; have hfz24_2 := blk_frozen BK101.out 2; have hfz24_3 := blk_frozen BK101.out 3; have hfz24_4 := blk_frozen BK101.out 4; have p107 : 0 ≤ (x7_3 : Int) := dT; have q107 : x7_3 < (l1_1.length : Int) := dT; obtain ⟨ad107, e107, hx107_0, hx107_1⟩ := at_T48 HR1_1.out x7_3 p107 q107; cases e107
            try replace hx107_0 := (HB.out.cell (World.block_lt_of_cell? w _ hx107_0)).trans hx107_0
            try replace hx107_1 := (HB.out.cell (World.block_lt_of_cell? w _ hx107_1)).trans hx107_1
            replace p107 := eq_true p107; replace q107 := eq_true q107
            go_wp2
            go_roundg k3
            case measure => have := HJ2.out; have := HK2.out; have := HK3.out; omega
            case rel => exact ⟨(wrap64 (x7_3 + 1)), eT, H', ⟨by have := HJ2.out; have := HK2.out; have := HK3.out; omega⟩, ⟨kB BK101.out⟩, ⟨bB1 HB.out GE101.out⟩⟩
          ·rw [if_neg c21] at H
           exact absurd H (by simp)
         ·rw [if_neg c20] at H
          have c20b0 : decide (x7_3 < (l1_1.length : Int)) = false := decide_eq_false c20; clear c20
          obtain rfl := Option.some.inj H
          have hcz25_0 : wr.cell? ⟨gb101, 0, none⟩ = some (.string a1_0) := (blk_cell BK101.out 0).trans rfl
          have hcz25_1 : wr.cell? ⟨gb101, 1, none⟩ = some (.slice A1_1 l1_1.length c1_1) := (blk_cell BK101.out 1).trans rfl
          have hcz25_2 : wr.cell? ⟨gb101, 2, none⟩ = some (.slice A1_2 l1_2.length c1_2) := (blk_cell BK101.out 2).trans rfl
          have hcz25_3 : wr.cell? ⟨gb101, 3, none⟩ = some (.slice A1_3 l1_3.length c1_3) := (blk_cell BK101.out 3).trans rfl
          have hcz25_4 : wr.cell? ⟨gb101, 4, none⟩ = some (.slice A1_4 l1_4.length c1_4) := (blk_cell BK101.out 4).trans rfl
          have hfz25_0 := blk_frozen BK101.out 0; have hfz25_1 := blk_frozen BK101.out 1; have hfz25_2 := blk_frozen BK101.out 2; have hfz25_3 := blk_frozen BK101.out 3; have hfz25_4 := blk_frozen BK101.out 4
          go_wp2
          go_ret
          exact ⟨rT, bB1 HB.out GE101.out⟩




section
-- STUBBED 46
/-! ### colorset_Name: function 46: by hand -/
open Go.Proofs.Ytapkjfnfkalibaa.Names

def colorset_Name.f (a0 : ByteArray) : Option (Bool) := some (nameB a0)

set_option maxHeartbeats 4000000 in
set_option maxRecDepth 100000 in
theorem colorset_Name.calls (a0 : ByteArray) (r : Bool) (w : World) (h : colorset_Name.f a0 = some r) :
    Calls Try.prog 46 #[.string a0] w fun e w' => e = .returned (.bool r) ∧ Below w.heap.size w w' := by
  have HR := Aside0.mk (show nameB a0 = r from Option.some.inj h)
  clear h
  by_cases h1 : 1 ≤ a0.size
  · by_cases h2 : a0.size ≤ 16
    · have g1 : ¬ (a0.size : Int) < 1 := by omega
      have g2 : ¬ (16 : Int) < (a0.size : Int) := by omega
      go_enter Try.func46, Try.ntmps46
      go_wp2
      go_loopw [3] (fun _ w' => ∃ pos : Nat, w' = w.iter a0 pos ∧ pos ≤ a0.size ∧ Aside0 (∀ i, i < pos → okB i (byteAt a0 i) = true)) (fun _ w' => a0.size - w'.iterPos w.heap.size)
      case atStart => exact ⟨0, rfl, Nat.zero_le _, ⟨fun i h => absurd h (Nat.not_lt_zero _)⟩⟩
      case round =>
        obtain ⟨pos, rfl, hpos, HA⟩ := hrel
        by_cases hp : pos < a0.size
        · have hnx : ∀ ty, (Instr.next (.pointer (some ⟨w.heap.size, 0, none⟩)) true ty).run Try.prog (w.iter a0 pos) = _ := fun ty => run_next_any w a0 pos ty hp
          obtain ⟨c, hc⟩ : ∃ c, c = byteAt a0 pos := ⟨_, rfl⟩
          by_cases hlo : c < 128
          · have hd := rune_low a0 pos hp (by omega)
            rw [← hc] at hd
            rw [hd] at hnx
            have HC := Aside0.mk hc
            clear hd hc
            go_wp2
            all_goals first
              | (go_roundw
                 case rel =>
                   refine ⟨pos + 1, rfl, by omega, ⟨fun i hi => ?_⟩⟩
                   by_cases e : i = pos
                   · rw [e, ← HC.out]
                     exact okB_of (by first | omega | (have h46 := is46 ‹_›; omega))
                   · exact HA.out i (by omega)
                 case measure => simp; omega)
              | (have hr : r = false := HR.out.symm.trans (nameB_false hp (by rw [← HC.out]; exact okB_not (by first | omega | (have h46 := not46 ‹_›; omega))))
                 go_ret
                 exact ⟨by rw [hr]; rfl, below_iter _ _ _⟩)
          · have hd := rune_high a0 pos hp (by omega)
            have hr : r = false := HR.out.symm.trans (nameB_false hp (by rw [← hc]; exact okB_high hlo))
            obtain ⟨u, hu⟩ : ∃ u, u = (Utf8.decode a0 pos).1 := ⟨_, rfl⟩
            rw [← hu] at hd hnx
            have HR2 := Aside0.mk hr
            have k1 : (97 : Int) ≤ (u : Int) := by omega
            have k2 : ¬ (u : Int) ≤ 122 := by omega
            have k3 : ((u : Int) == 95) = false := by rw [beq_eq_false_iff_ne]; omega
            have k4 : (48 : Int) ≤ (u : Int) := by omega
            have k5 : ¬ (u : Int) ≤ 57 := by omega
            have k6 : ((u : Int) == 46) = false := by rw [beq_eq_false_iff_ne]; omega
            clear hr hu hc hlo
            go_wp2
            all_goals
              go_ret
              exact ⟨by rw [HR2.out]; rfl, below_iter _ _ _⟩
        · have hnx : ∀ ty, (Instr.next (.pointer (some ⟨w.heap.size, 0, none⟩)) true ty).run Try.prog (w.iter a0 pos) = _ := fun ty => run_next_end w a0 pos ty hp
          obtain rfl : pos = a0.size := by omega
          go_wp2
          go_ret
          have hr : r = true := HR.out.symm.trans (nameB_true h1 h2 HA.out)
          exact ⟨by rw [hr]; rfl, below_iter _ _ _⟩
    · have HF := Aside0.mk (show nameB a0 = false by unfold nameB; simp [h2])
      have g1 : ¬ (a0.size : Int) < 1 := by omega
      have g2 : (16 : Int) < (a0.size : Int) := by omega
      go_enter Try.func46, Try.ntmps46
      go_wp2
      go_ret
      have hr : r = false := HR.out.symm.trans HF.out
      exact ⟨by rw [hr]; rfl, Below.refl _ _⟩
  · have HF := Aside0.mk (show nameB a0 = false by unfold nameB; simp [h1])
    have g1 : (a0.size : Int) < 1 := by omega
    go_enter Try.func46, Try.ntmps46
    go_wp2
    go_ret
    have hr : r = false := HR.out.symm.trans HF.out
    exact ⟨by rw [hr]; rfl, Below.refl _ _⟩


end



section
-- STUBBED 29
/-! ### colorset_Check: function 29: by hand -/
open Go.Maps
open Go.WideMaps (keyOf_string_mk)
open Go.Proofs.Ytapkjfnfkalibaa.Names Go.Proofs.Ytapkjfnfkalibaa.Iter

def hasK (keys : List ByteArray) (s : ByteArray) : Bool := keys.any fun x => decide (x.data.toList = s.data.toList)
/-- The values from some place on; those ahead of it are names, no two alike. -/
def colGo : List ByteArray → List ByteArray → Int
 | [], _ => 0
 | v :: vs, keys => if nameB v = true then (if hasK keys v = true then 6 else colGo vs (keys ++ [v])) else 5
def colV (a : ByteArray) (l : List ByteArray) : Int := if nameB a = true then (if l.length < 1 then 2 else if 12 < l.length then 2 else colGo l []) else 5
def colorset_Check.f (a0_0 : ByteArray) (l0_1 : List ByteArray) : Option Int := some (colV a0_0 l0_1)
/-- The map as it reads, and the keys so far. -/
def HasV (D : DataW Unit) (keys : List ByteArray) : Prop := ∀ s : ByteArray, Maps.has D (.string s.data.toList) = hasK keys s
theorem HasV.nil : HasV (.map []) [] := fun s => rfl
theorem HasV.step {D : DataW Unit} {keys : List ByteArray} (h : HasV D keys) (hm : Maps.IsMap D) (s : ByteArray) (d : DataW Unit) : HasV (D.put (.string s.data.toList) d) (keys ++ [s]) := fun t => by
 unfold hasK
 rw [List.any_append, List.any_cons, List.any_nil, Bool.or_false]
 by_cases e : s.data.toList = t.data.toList
 ·rw [decide_eq_true e, Bool.or_true, ← e, Maps.has_put_same hm (by simp [WideAt.IsKeyLit])]
 ·have hne : (Lit.string t.data.toList) ≠ (Lit.string s.data.toList) := fun ee => by injection ee with ee; exact e ee.symm
  rw [decide_eq_false e, Bool.or_false, Maps.has_put_other hne]
  exact h t
section
variable {W W1 : World} {P : Program} {kt et b n : Nat} {D : DataW Unit}
theorem cm_below (h : W.ownsMap P kt (plainElem P et) b n D) (hb : Below W.heap.size W W1) : W1.ownsMap P kt (plainElem P et) b n D := by
 have hlt := h.lt
 obtain ⟨es, clock, h0, h1⟩ := h
 exact ⟨es, clock, (hb.block b hlt).trans h0, h1⟩
end
theorem cm_law : Keyed Try.prog 9 := string_keyed Try.underlying9
theorem cm_zero (w : World) : (zeroValue 3).run Try.prog w = .ok (.int .i64 0) w := by kernel_rfl
theorem cm2 {W : World} {g : Nat} {t : TypeId} {x y : Value} (h : Blk W g t [x, y]) : W.cell? ⟨g, 0, none⟩ = some x ∧ W.cell? ⟨g, 1, none⟩ = some y := by
 refine ⟨?_, ?_⟩ <;> simp [World.cell?, show W.heap[g]? = _ from h]
theorem name_size {s : ByteArray} (h : nameB s = true) : s.size ≤ 16 := by
 unfold nameB at h
 simp only [Bool.and_eq_true, decide_eq_true_eq] at h
 exact h.1.2

set_option maxHeartbeats 16000000 in
set_option maxRecDepth 100000 in
theorem colorset_Check.calls (a0_0 : ByteArray) (A0_1 : Option Addr) (c0_1 : Nat) (l0_1 : List ByteArray) (r : Int) (w : World) (hr0_1 : Kd.C Kd.string w A0_1 l0_1.length l0_1) (hc0_1 : l0_1.length ≤ c0_1) (h : colorset_Check.f a0_0 l0_1 = some r) :
  Calls Try.prog 29 #[.agg #[.string a0_0, .slice A0_1 l0_1.length c0_1]] w fun e w' => e = .returned (.int .i64 r) ∧ Below w.heap.size w w' := by
 have HR := Aside0.mk hr0_1
 have HC := Aside0.mk hc0_1
 clear hr0_1 hc0_1
 unfold colorset_Check.f colV at h
 simp only [Option.some.injEq] at h
 have hmm := @run_makeMap Try.prog
 cases hna : nameB a0_0 with
 | false =>
  have HNA := Aside0.mk (show colorset_Name.f a0_0 = some false by unfold colorset_Name.f; rw [hna])
  rw [hna, if_neg (by simp)] at h
  subst h
  clear hna
  go_enter Try.func29, Try.ntmps29
  go_wp2_with (go_at_call 46; (with_reducible refine (colorset_Name.calls a0_0 false _ HNA.out).mono ?_); rintro e w1 ⟨rfl, hb1⟩; have HS1 := Aside0.mk (show Blk w1 w.heap.size 51 [.string a0_0, .slice A0_1 l0_1.length c0_1] from blk_later (World.alloc_heap_new w (.cells #[.string a0_0, .slice A0_1 l0_1.length c0_1] 51)) hb1); have HB1 := Aside0.mk (show Below w.heap.size w w1 from ((Below.refl _ w).alloc (Nat.le_refl _) _).trans (hb1.mono (by simp))); have hS0 := (cm2 HS1.out).1; have hS1 := (cm2 HS1.out).2; have hT1 := (fun o => (cm2 (blk_alloc HS1.out o)).2); clear hb1)
  go_ret
  exact ⟨rfl, HB1.out⟩
 | true =>
  have HNA := Aside0.mk (show colorset_Name.f a0_0 = some true by unfold colorset_Name.f; rw [hna])
  rw [hna, if_pos rfl] at h
  clear hna
  by_cases h1 : l0_1.length < 1
  ·rw [if_pos h1] at h
   subst h
   have q1 : decide ((l0_1.length : Int) < 1) = true := decide_eq_true (by omega)
   clear h1
   go_enter Try.func29, Try.ntmps29
   go_wp2_with (go_at_call 46; (with_reducible refine (colorset_Name.calls a0_0 true _ HNA.out).mono ?_); rintro e w1 ⟨rfl, hb1⟩; have HS1 := Aside0.mk (show Blk w1 w.heap.size 51 [.string a0_0, .slice A0_1 l0_1.length c0_1] from blk_later (World.alloc_heap_new w (.cells #[.string a0_0, .slice A0_1 l0_1.length c0_1] 51)) hb1); have HB1 := Aside0.mk (show Below w.heap.size w w1 from ((Below.refl _ w).alloc (Nat.le_refl _) _).trans (hb1.mono (by simp))); have hS0 := (cm2 HS1.out).1; have hS1 := (cm2 HS1.out).2; have hT1 := (fun o => (cm2 (blk_alloc HS1.out o)).2); clear hb1)
   go_ret
   exact ⟨rfl, HB1.out⟩
  ·rw [if_neg h1] at h
   by_cases h2 : 12 < l0_1.length
   ·rw [if_pos h2] at h
    subst h
    have q1 : decide ((l0_1.length : Int) < 1) = false := decide_eq_false (by omega)
    have q2 : decide ((12 : Int) < (l0_1.length : Int)) = true := decide_eq_true (by omega)
    clear h1 h2
    go_enter Try.func29, Try.ntmps29
    go_wp2_with (go_at_call 46; (with_reducible refine (colorset_Name.calls a0_0 true _ HNA.out).mono ?_); rintro e w1 ⟨rfl, hb1⟩; have HS1 := Aside0.mk (show Blk w1 w.heap.size 51 [.string a0_0, .slice A0_1 l0_1.length c0_1] from blk_later (World.alloc_heap_new w (.cells #[.string a0_0, .slice A0_1 l0_1.length c0_1] 51)) hb1); have HB1 := Aside0.mk (show Below w.heap.size w w1 from ((Below.refl _ w).alloc (Nat.le_refl _) _).trans (hb1.mono (by simp))); have hS0 := (cm2 HS1.out).1; have hS1 := (cm2 HS1.out).2; have hT1 := (fun o => (cm2 (blk_alloc HS1.out o)).2); clear hb1)
    go_ret
    exact ⟨rfl, HB1.out⟩
   ·rw [if_neg h2] at h
    have q1 : decide ((l0_1.length : Int) < 1) = false := decide_eq_false (by omega)
    have q2 : decide ((12 : Int) < (l0_1.length : Int)) = false := decide_eq_false (by omega)
    have h12 : l0_1.length ≤ 12 := by omega
    have HH := Aside0.mk (show colGo (l0_1.drop 0) (l0_1.take 0) = r by rw [List.drop_zero, List.take_zero]; exact h)
    clear h h1 h2
    go_enter Try.func29, Try.ntmps29
    go_wp2_with (go_at_call 46; (with_reducible refine (colorset_Name.calls a0_0 true _ HNA.out).mono ?_); rintro e w1 ⟨rfl, hb1⟩; have HS1 := Aside0.mk (show Blk w1 w.heap.size 51 [.string a0_0, .slice A0_1 l0_1.length c0_1] from blk_later (World.alloc_heap_new w (.cells #[.string a0_0, .slice A0_1 l0_1.length c0_1] 51)) hb1); have HB1 := Aside0.mk (show Below w.heap.size w w1 from ((Below.refl _ w).alloc (Nat.le_refl _) _).trans (hb1.mono (by simp))); have hS0 := (cm2 HS1.out).1; have hS1 := (cm2 HS1.out).2; have hT1 := (fun o => (cm2 (blk_alloc HS1.out o)).2); clear hb1)

    clear q1 q2
    have hBw : w.heap.size ≤ w1.heap.size := HB1.out.size
    have HM0 : Aside0 ((w1.alloc (.map #[] 0)).ownsMap Try.prog 9 (plainElem Try.prog 3) w1.heap.size 0 (.map [] : DataW Unit)) := ⟨World.ownsMap_made _ _ _ _⟩
    have HB0 := Aside0.mk (show Below w.heap.size w (w1.alloc (.map #[] 0)) from below_alloc HB1.out _)
    generalize w1.alloc (.map #[] 0) = w2 at HM0 HB0 ⊢
    clear HB1 hS0 hS1 hT1 HS1
    go_loopw [26] (fun v26 wr => ∃ (i : Nat) (D : DataW Unit), v26 = .int .i64 (i : Int) ∧ i ≤ l0_1.length ∧ Aside0 (colGo (l0_1.drop i) (l0_1.take i) = r) ∧ Aside0 (HasV D (l0_1.take i)) ∧ Aside0 (wr.ownsMap Try.prog 9 (plainElem Try.prog 3) w1.heap.size i D) ∧ Aside0 (Below w.heap.size w wr)) (fun v26 _ => l0_1.length + 1 - (intOf v26).toNat)
    case atStart => exact ⟨0, .map [], rfl, Nat.zero_le _, HH, ⟨by rw [List.take_zero]; exact HasV.nil⟩, HM0, HB0⟩
    case round =>
     clear HH HM0 HB0
     obtain ⟨i, D, rfl, hi, HH, HHV, HM, HB⟩ := hrel
     by_cases hil : i < l0_1.length
     ·have H := HH.out
      rw [List.drop_eq_getElem_cons hil, colGo] at H
      obtain ⟨ad, e, hx⟩ := Kd.at_string HR.out (i : Int) (by omega) (by omega)
      obtain ⟨v, ev⟩ : ∃ v, v = l0_1[i] := ⟨_, rfl⟩
      rw [show rdOf ByteArray.empty l0_1 (i : Int) = v by rw [ev]; simp [rdOf, hil], Int.toNat_natCast] at hx
      have HTK := Aside0.mk (show l0_1.take (i + 1) = l0_1.take i ++ [v] by rw [ev]; exact List.take_succ_eq_append_getElem hil)
      rw [← ev] at H
      replace hx := (HB.out.cell (World.block_lt_of_cell? w _ hx)).trans hx
      cases e
      clear ev
      have p1 : (0 ≤ (i : Int)) = True := eq_true (by omega)
      have qq1 : ((i : Int) < (l0_1.length : Int)) = True := eq_true (by omega)
      have qq2 : decide ((i : Int) < (l0_1.length : Int)) = true := decide_eq_true (by omega)
      cases hnv : nameB v with
      | false =>
       rw [hnv, if_neg (by simp)] at H
       subst H
       have HNV := Aside0.mk (show colorset_Name.f v = some false by unfold colorset_Name.f; rw [hnv])
       clear hnv
       go_wp2_with (go_at_call 46; (with_reducible refine (colorset_Name.calls v false _ HNV.out).mono ?_); rintro e w3 ⟨rfl, hb3⟩; have HM3 := Aside0.mk (cm_below HM.out hb3); have HB3 := Aside0.mk (below_step HB.out hb3); have hs3 := HB3.out.size; clear hb3)
       go_ret
       exact ⟨rfl, HB3.out⟩
      | true =>
       rw [hnv, if_pos rfl] at H
       have HNV := Aside0.mk (show colorset_Name.f v = some true by unfold colorset_Name.f; rw [hnv])
       have HSZ := Aside0.mk (show v.size ≤ maxLen from Nat.le_trans (name_size hnv) (by decide))
       clear hnv
       cases hhk : hasK (l0_1.take i) v with
       | true =>
        rw [hhk, if_pos rfl] at H
        subst H
        have HHAS := Aside0.mk (show Maps.has D (.string v.data.toList) = true by rw [HHV.out v, hhk])
        clear hhk
        go_wp2_with (first | (go_at_call 46; (with_reducible refine (colorset_Name.calls v true _ HNV.out).mono ?_); rintro e w3 ⟨rfl, hb3⟩; have HM3 := Aside0.mk (cm_below HM.out hb3); have HB3 := Aside0.mk (below_step HB.out hb3); have hs3 := HB3.out.size; clear hb3) | (at_lookup; refine wpList_lookup_own_ok_int _ rfl _ _ 75 rfl 9 3 .i64 cm_law Try.underlying75 Try.underlying3 (cm_zero _) w1.heap.size i D rfl HM3.out _ _ rfl (keyOf_string_mk Try.underlying9 HSZ.out) ?_; intro c hat hwc; rw [HHAS.out]; clear hat hwc))
        go_ret
        exact ⟨rfl, HB3.out⟩
       | false =>
        rw [hhk, if_neg (by simp)] at H
        have HH2 := Aside0.mk (show colGo (l0_1.drop (i + 1)) (l0_1.take (i + 1)) = r by rw [HTK.out]; exact H)
        have HHAS := Aside0.mk (show Maps.has D (.string v.data.toList) = false by rw [HHV.out v, hhk])
        have HHV2 := Aside0.mk (show HasV (D.put (.string v.data.toList) (.lit (.int .i64 (i : Int)))) (l0_1.take (i + 1)) by rw [HTK.out]; exact HHV.out.step HM.out.isMap v _)
        have HWF := Aside0.mk (show (Lit.int .i64 (i : Int)).wf = true from WalkArith.wf_i64 (by omega))
        clear hhk H
        go_wp2_with (first | (go_at_call 46; (with_reducible refine (colorset_Name.calls v true _ HNV.out).mono ?_); rintro e w3 ⟨rfl, hb3⟩; have HM3 := Aside0.mk (cm_below HM.out hb3); have HB3 := Aside0.mk (below_step HB.out hb3); have hs3 := HB3.out.size; clear hb3) | (at_lookup; refine wpList_lookup_own_ok_int _ rfl _ _ 75 rfl 9 3 .i64 cm_law Try.underlying75 Try.underlying3 (cm_zero _) w1.heap.size i D rfl HM3.out _ _ rfl (keyOf_string_mk Try.underlying9 HSZ.out) ?_; intro c hat hwc; rw [HHAS.out]; clear hat hwc) | (at_mapUpdate; refine wpList_mapUpdate_own _ rfl _ _ _ 75 rfl 9 3 cm_law Try.underlying75 _ w1.heap.size i D rfl HM3.out (by unfold maxLen; omega) _ _ _ rfl rfl (keyOf_string_mk Try.underlying9 HSZ.out) _ [] (plainElem_int Try.underlying3 HWF.out) ?_; intro w4 hown4 hg4; have HM4 := Aside0.mk hown4; have HB4 := Aside0.mk (HB3.out.grown hg4 hs3 (fun k ek => by injection ek with ek; omega)); clear hown4 hg4))
        go_roundw
        case rel => exact ⟨i + 1, _, rfl, by omega, HH2, HHV2, HM4, HB4⟩
        case measure => simp [intOf]; omega
     ·obtain rfl : i = l0_1.length := by omega
      have H := HH.out
      rw [List.drop_length, colGo] at H
      subst H
      have qq2 : decide ((l0_1.length : Int) < (l0_1.length : Int)) = false := decide_eq_false (by omega)
      clear HH
      go_wp2
      go_ret
      exact ⟨rfl, HB.out⟩


end


-- NOT PRINTED: function 57 (api_Var_57)

-- NOT PRINTED: function 47 (api_Var_47)

-- NOT PRINTED: function 48 (binding_variables_1)




section
-- STUBBED 30
/-! ### binding_variables: function 30: by hand -/
open Go.Proofs.Ytapkjfnfkalibaa.Names Go.Proofs.Ytapkjfnfkalibaa.Iter

def sameB (a b : ByteArray) : Bool := a.toList == b.toList
def varE (n : Nat) (pre : List S48) (v : S48) : Int := if nameB v.f0 = true then (if (pre.any fun x => sameB x.f0 v.f0) = true then 6 else if v.f1 < 0 then 1 else if (n : Int) ≤ v.f1 then 1 else 0) else 5
def varsGo (n : Nat) : List S48 → List S48 → Int
 | [], _ => 0
 | v :: vs, pre => if varE n pre v = 0 then varsGo n vs (pre ++ [v]) else varE n pre v
def binding_variables.f (l0 : List S51) (l1 : List S48) : Option Int := if l1.length ≤ 1000 then some (varsGo l0.length l1 []) else none
theorem bv2 {W : World} {g : Nat} {t : TypeId} {x y : Value} (h : Blk W g t [x, y]) : W.cell? ⟨g, 0, none⟩ = some x ∧ W.cell? ⟨g, 1, none⟩ = some y := by
 refine ⟨?_, ?_⟩ <;> simp [World.cell?, show W.heap[g]? = _ from h]
set_option maxHeartbeats 16000000 in
set_option maxRecDepth 100000 in
theorem bv_closure (x : S48) (g : Nat) (nm : ByteArray) (st : Int) (w : World) (hg : Blk w g 48 [.string nm, .int .i64 st]) :
  Calls Try.prog 48 #[.agg #[.string x.f0, .int .i64 x.f1], .pointer (some ⟨g, 0, none⟩)] w fun e w' => e = .returned (.bool (sameB x.f0 nm)) ∧ Below w.heap.size w w' := by
 have hlt : g < w.heap.size := by
  by_cases h : g < w.heap.size
  ·exact h
  ·rw [Blk, Array.getElem?_eq_none (by omega)] at hg
   cases hg
 have hS0 : ∀ o, (w.alloc o).cell? ⟨g, 0, none⟩ = some (.string nm) := fun o => (bv2 (blk_alloc hg o)).1
 have HB := Aside0.mk (show ∀ o, Below w.heap.size w (w.alloc o) from fun o => (Below.refl _ w).alloc (Nat.le_refl _) o)
 clear hg
 go_enter Try.func48, Try.ntmps48
 go_wp2
 go_ret
 exact ⟨rfl, HB.out _⟩
theorem bv_lt {W : World} {g : Nat} {t : TypeId} {xs : List Value} (h : Blk W g t xs) : g < W.heap.size := by
 by_cases hg : g < W.heap.size
 ·exact hg
 ·rw [Blk, Array.getElem?_eq_none (by omega)] at h
  cases h
set_option maxHeartbeats 16000000 in
set_option maxRecDepth 100000 in
theorem bv_index (A : Option Addr) (c : Nat) (l : List S48) (g : Nat) (nm : ByteArray) (st : Int) (w : World) (hg : Blk w g 48 [.string nm, .int .i64 st]) (hr : Kd.C k48 w A l.length l) (hl : l.length ≤ 1000) :
  Calls Try.prog 57 #[.slice A l.length c, .func (.func 48) #[] #[.pointer (some ⟨g, 0, none⟩)]] w fun e w' => (∃ z : Int, e = .returned (.int .i64 z) ∧ decide (0 ≤ z) = (l.any fun x => sameB x.f0 nm)) ∧ Below w.heap.size w w' := by
 have HG := Aside0.mk hg
 have HR := Aside0.mk hr
 have hlt := bv_lt hg
 clear hg hr
 go_enter Try.func57, Try.ntmps57
 go_wp2
 go_loopw [8] (fun v8 wr => ∃ i : Nat, v8 = .int .i64 (i : Int) ∧ i ≤ l.length ∧ Aside0 (((l.take i).any fun x => sameB x.f0 nm) = false) ∧ Aside0 (Below w.heap.size w wr)) (fun v8 _ => l.length + 1 - (intOf v8).toNat)
 case atStart => exact ⟨0, rfl, Nat.zero_le _, ⟨rfl⟩, ⟨Below.refl _ _⟩⟩
 case round =>
  obtain ⟨i, rfl, hi, HQ, HB⟩ := hrel
  by_cases hil : i < l.length
  ·obtain ⟨ad, e, hx0, hx1⟩ := at_T48 HR.out (i : Int) (by omega) (by omega)
   obtain ⟨x, ex⟩ : ∃ x, x = l[i] := ⟨_, rfl⟩
   rw [show rd_T48 l (i : Int) = x by rw [ex]; simp [rd_T48, hil], Int.toNat_natCast] at hx0 hx1
   have HTK := Aside0.mk (show l.take (i + 1) = l.take i ++ [x] by rw [ex]; exact List.take_succ_eq_append_getElem hil)
   have HMEM := Aside0.mk (show x ∈ l by rw [ex]; exact List.getElem_mem hil)
   replace hx0 := (HB.out.cell (World.block_lt_of_cell? w _ hx0)).trans hx0
   replace hx1 := (HB.out.cell (World.block_lt_of_cell? w _ hx1)).trans hx1
   cases e
   clear ex
   have HG1 := Aside0.mk (show Blk wr g 48 [.string nm, .int .i64 st] from (HB.out.block g hlt).trans HG.out)
   have p1 : (0 ≤ (i : Int)) = True := eq_true (by omega)
   have qq1 : ((i : Int) < (l.length : Int)) = True := eq_true (by omega)
   have qq2 : decide ((i : Int) < (l.length : Int)) = true := decide_eq_true (by omega)
   cases hsb : sameB x.f0 nm with
   | true =>
    have HSB := Aside0.mk hsb
    clear hsb
    go_wp2_with (go_at_call 48; (with_reducible refine (bv_closure x g nm st _ HG1.out).mono ?_); rintro e w3 ⟨rfl, hb3⟩; rw [HSB.out]; have HB3 := Aside0.mk (below_step HB.out hb3); clear hb3)
    go_ret
    exact ⟨⟨(i : Int), rfl, by rw [decide_eq_true (by omega), List.any_eq_true.2 ⟨x, HMEM.out, HSB.out⟩]⟩, HB3.out⟩
   | false =>
    have HSB := Aside0.mk hsb
    clear hsb
    go_wp2_with (go_at_call 48; (with_reducible refine (bv_closure x g nm st _ HG1.out).mono ?_); rintro e w3 ⟨rfl, hb3⟩; rw [HSB.out]; have HB3 := Aside0.mk (below_step HB.out hb3); clear hb3)
    go_roundw
    case rel => exact ⟨i + 1, rfl, by omega, ⟨by rw [HTK.out, List.any_append, HQ.out]; simp [HSB.out]⟩, HB3⟩
    case measure => simp [intOf]; omega
  ·obtain rfl : i = l.length := by omega
   have qq2 : decide ((l.length : Int) < (l.length : Int)) = false := decide_eq_false (by omega)
   go_wp2
   go_ret
   exact ⟨⟨-1, rfl, by have h := HQ.out; rw [List.take_length] at h; rw [h]; rfl⟩, HB.out⟩
set_option maxHeartbeats 16000000 in
set_option maxRecDepth 100000 in
theorem bv_contains (A : Option Addr) (c : Nat) (l : List S48) (g : Nat) (nm : ByteArray) (st : Int) (w : World) (hg : Blk w g 48 [.string nm, .int .i64 st]) (hr : Kd.C k48 w A l.length l) (hl : l.length ≤ 1000) :
  Calls Try.prog 47 #[.slice A l.length c, .func (.func 48) #[] #[.pointer (some ⟨g, 0, none⟩)]] w fun e w' => e = .returned (.bool (l.any fun x => sameB x.f0 nm)) ∧ Below w.heap.size w w' := by
 have HG := Aside0.mk hg
 have HR := Aside0.mk hr
 clear hg hr
 go_enter Try.func47, Try.ntmps47
 go_wp2_with (go_at_call 57; (with_reducible refine (bv_index A c l g nm st _ HG.out HR.out hl).mono ?_); rintro e w1 ⟨⟨z, rfl, hz⟩, hb1⟩; have HZ := Aside0.mk hz; have HB1 := Aside0.mk hb1; clear hz hb1)
 go_ret
 exact ⟨by rw [← HZ.out]; rfl, HB1.out⟩
theorem bv_contains2 (n : Nat) (A : Option Addr) (c : Nat) (l : List S48) (hn : l.length = n) (g : Nat) (nm : ByteArray) (st : Int) (w : World) (hg : Blk w g 48 [.string nm, .int .i64 st]) (hr : Kd.C k48 w A l.length l) (hl : n ≤ 1000) :
  Calls Try.prog 47 #[.slice A n c, .func (.func 48) #[] #[.pointer (some ⟨g, 0, none⟩)]] w fun e w' => e = .returned (.bool (l.any fun x => sameB x.f0 nm)) ∧ Below w.heap.size w w' := by
 subst hn
 exact bv_contains A c l g nm st w hg hr hl
set_option maxHeartbeats 16000000 in
set_option maxRecDepth 100000 in
theorem binding_variables.calls (A0 : Option Addr) (c0 : Nat) (l0 : List S51) (A1 : Option Addr) (c1 : Nat) (l1 : List S48) (r : Int) (w : World) (hr0 : Kd.C k51 w A0 l0.length l0) (hc0 : l0.length ≤ c0) (hr1 : Kd.C k48 w A1 l1.length l1) (hc1 : l1.length ≤ c1) (h : binding_variables.f l0 l1 = some r) :
  Calls Try.prog 30 #[.slice A0 l0.length c0, .slice A1 l1.length c1] w fun e w' => e = .returned (.int .i64 r) ∧ Below w.heap.size w w' := by
 have HR1 := Aside0.mk hr1
 have HC1 := Aside0.mk hc1
 clear hr0 hr1
 unfold binding_variables.f at h
 by_cases hle : l1.length ≤ 1000
 ·rw [if_pos hle, Option.some.injEq] at h
  have HH := Aside0.mk (show varsGo l0.length (l1.drop 0) (l1.take 0) = r by rw [List.drop_zero, List.take_zero]; exact h)
  clear h hc1
  go_enter Try.func30, Try.ntmps30
  go_wp2
  go_loopw [9] (fun v9 wr => ∃ i : Nat, v9 = .int .i64 (i : Int) ∧ i ≤ l1.length ∧ Aside0 (varsGo l0.length (l1.drop i) (l1.take i) = r) ∧ Aside0 (Below w.heap.size w wr)) (fun v9 _ => l1.length + 1 - (intOf v9).toNat)
  case atStart => exact ⟨0, rfl, Nat.zero_le _, HH, ⟨Below.refl _ _⟩⟩
  case round =>
   clear HH
   obtain ⟨i, rfl, hi, HH, HB⟩ := hrel
   by_cases hil : i < l1.length
   ·have H := HH.out
    rw [List.drop_eq_getElem_cons hil, varsGo] at H
    obtain ⟨ad, e, hx0, hx1⟩ := at_T48 HR1.out (i : Int) (by omega) (by omega)
    obtain ⟨v, ev⟩ : ∃ v, v = l1[i] := ⟨_, rfl⟩
    rw [show rd_T48 l1 (i : Int) = v by rw [ev]; simp [rd_T48, hil], Int.toNat_natCast] at hx0 hx1
    have HTK := Aside0.mk (show l1.take (i + 1) = l1.take i ++ [v] by rw [ev]; exact List.take_succ_eq_append_getElem hil)
    have HLT := Aside0.mk (show (l1.take i).length = i by rw [List.length_take]; omega)
    rw [← ev] at H
    replace hx0 := (HB.out.cell (World.block_lt_of_cell? w _ hx0)).trans hx0
    replace hx1 := (HB.out.cell (World.block_lt_of_cell? w _ hx1)).trans hx1
    cases e
    clear ev
    have hsr := HB.out.size
    have p1 : (0 ≤ (i : Int)) = True := eq_true (by omega)
    have qq1 : ((i : Int) < (l1.length : Int)) = True := eq_true (by omega)
    have qq2 : decide ((i : Int) < (l1.length : Int)) = true := decide_eq_true (by omega)
    have hcap := HC1.out
    have p2 : ((i : Int) ≤ (c1 : Int)) = True := eq_true (by omega)
    cases hnv : nameB v.f0 with
    | false =>
     have hE : varE l0.length (l1.take i) v = 5 := by unfold varE; rw [hnv, if_neg (by simp)]
     rw [hE, if_neg (by decide)] at H
     subst H
     have HNV := Aside0.mk (show colorset_Name.f v.f0 = some false by unfold colorset_Name.f; rw [hnv])
     clear hnv hE
     go_wp2_with (go_at_call 46; (with_reducible refine (colorset_Name.calls v.f0 false _ HNV.out).mono ?_); rintro e w3 ⟨rfl, hb3⟩; have HG3 := Aside0.mk (show Blk w3 wr.heap.size 48 [.string v.f0, .int .i64 v.f1] from blk_later (World.alloc_heap_new wr (.cells #[.string v.f0, .int .i64 v.f1] 48)) hb3); have HB3 := Aside0.mk (below_step (show Below w.heap.size w _ from below_alloc HB.out _) hb3); clear hb3)
     go_ret
     exact ⟨rfl, HB3.out⟩
    | true =>
     have HNV := Aside0.mk (show colorset_Name.f v.f0 = some true by unfold colorset_Name.f; rw [hnv])
     cases han : ((l1.take i).any fun x => sameB x.f0 v.f0) with
     | true =>
      have hE : varE l0.length (l1.take i) v = 6 := by unfold varE; rw [hnv, if_pos rfl, han, if_pos rfl]
      rw [hE, if_neg (by decide)] at H
      subst H
      have HAN := Aside0.mk han
      clear hnv hE han
      go_wp2_with (first | (go_at_call 46; (with_reducible refine (colorset_Name.calls v.f0 true _ HNV.out).mono ?_); rintro e w3 ⟨rfl, hb3⟩; have HG3 := Aside0.mk (show Blk w3 wr.heap.size 48 [.string v.f0, .int .i64 v.f1] from blk_later (World.alloc_heap_new wr (.cells #[.string v.f0, .int .i64 v.f1] 48)) hb3); have HB3 := Aside0.mk (below_step (show Below w.heap.size w _ from below_alloc HB.out _) hb3); clear hb3) | (go_at_call 47; (with_reducible refine (bv_contains2 i (some ad) _ (l1.take i) HLT.out wr.heap.size v.f0 v.f1 w3 HG3.out (Kd.C_take (Kd.C_below HR1.out HB3.out) hi) (by omega)).mono ?_); rintro e w4 ⟨rfl, hb4⟩; rw [HAN.out]; have HG4 := Aside0.mk (blk_later HG3.out hb4); have HB4 := Aside0.mk (below_step HB3.out hb4); have hc0 := (bv2 HG4.out).1; have hc1 := (bv2 HG4.out).2; clear hb4))
      go_ret
      exact ⟨rfl, HB4.out⟩
     | false =>
      have HAN := Aside0.mk han
      by_cases hv0 : v.f1 < 0
      ·have hE : varE l0.length (l1.take i) v = 1 := by unfold varE; rw [hnv, if_pos rfl, han, if_neg (by simp), if_pos hv0]
       rw [hE, if_neg (by decide)] at H
       subst H
       have q5 : decide (v.f1 < 0) = true := decide_eq_true hv0
       clear hnv hE han hv0
       go_wp2_with (first | (go_at_call 46; (with_reducible refine (colorset_Name.calls v.f0 true _ HNV.out).mono ?_); rintro e w3 ⟨rfl, hb3⟩; have HG3 := Aside0.mk (show Blk w3 wr.heap.size 48 [.string v.f0, .int .i64 v.f1] from blk_later (World.alloc_heap_new wr (.cells #[.string v.f0, .int .i64 v.f1] 48)) hb3); have HB3 := Aside0.mk (below_step (show Below w.heap.size w _ from below_alloc HB.out _) hb3); clear hb3) | (go_at_call 47; (with_reducible refine (bv_contains2 i (some ad) _ (l1.take i) HLT.out wr.heap.size v.f0 v.f1 w3 HG3.out (Kd.C_take (Kd.C_below HR1.out HB3.out) hi) (by omega)).mono ?_); rintro e w4 ⟨rfl, hb4⟩; rw [HAN.out]; have HG4 := Aside0.mk (blk_later HG3.out hb4); have HB4 := Aside0.mk (below_step HB3.out hb4); have hc0 := (bv2 HG4.out).1; have hc1 := (bv2 HG4.out).2; clear hb4))
       go_ret
       exact ⟨rfl, HB4.out⟩
      ·have q5 : decide (v.f1 < 0) = false := decide_eq_false hv0
       by_cases hv1 : (l0.length : Int) ≤ v.f1
       ·have hE : varE l0.length (l1.take i) v = 1 := by unfold varE; rw [hnv, if_pos rfl, han, if_neg (by simp), if_neg hv0, if_pos hv1]
        rw [hE, if_neg (by decide)] at H
        subst H
        have q6 : decide ((l0.length : Int) ≤ v.f1) = true := decide_eq_true hv1
        clear hnv hE han hv0 hv1
        go_wp2_with (first | (go_at_call 46; (with_reducible refine (colorset_Name.calls v.f0 true _ HNV.out).mono ?_); rintro e w3 ⟨rfl, hb3⟩; have HG3 := Aside0.mk (show Blk w3 wr.heap.size 48 [.string v.f0, .int .i64 v.f1] from blk_later (World.alloc_heap_new wr (.cells #[.string v.f0, .int .i64 v.f1] 48)) hb3); have HB3 := Aside0.mk (below_step (show Below w.heap.size w _ from below_alloc HB.out _) hb3); clear hb3) | (go_at_call 47; (with_reducible refine (bv_contains2 i (some ad) _ (l1.take i) HLT.out wr.heap.size v.f0 v.f1 w3 HG3.out (Kd.C_take (Kd.C_below HR1.out HB3.out) hi) (by omega)).mono ?_); rintro e w4 ⟨rfl, hb4⟩; rw [HAN.out]; have HG4 := Aside0.mk (blk_later HG3.out hb4); have HB4 := Aside0.mk (below_step HB3.out hb4); have hc0 := (bv2 HG4.out).1; have hc1 := (bv2 HG4.out).2; clear hb4))
        go_ret
        exact ⟨rfl, HB4.out⟩
       ·have hE : varE l0.length (l1.take i) v = 0 := by unfold varE; rw [hnv, if_pos rfl, han, if_neg (by simp), if_neg hv0, if_neg hv1]
        rw [hE, if_pos rfl] at H
        have HH2 := Aside0.mk (show varsGo l0.length (l1.drop (i + 1)) (l1.take (i + 1)) = r by rw [HTK.out]; exact H)
        have q6 : decide ((l0.length : Int) ≤ v.f1) = false := decide_eq_false hv1
        clear hnv hE han hv0 hv1 H
        go_wp2_with (first | (go_at_call 46; (with_reducible refine (colorset_Name.calls v.f0 true _ HNV.out).mono ?_); rintro e w3 ⟨rfl, hb3⟩; have HG3 := Aside0.mk (show Blk w3 wr.heap.size 48 [.string v.f0, .int .i64 v.f1] from blk_later (World.alloc_heap_new wr (.cells #[.string v.f0, .int .i64 v.f1] 48)) hb3); have HB3 := Aside0.mk (below_step (show Below w.heap.size w _ from below_alloc HB.out _) hb3); clear hb3) | (go_at_call 47; (with_reducible refine (bv_contains2 i (some ad) _ (l1.take i) HLT.out wr.heap.size v.f0 v.f1 w3 HG3.out (Kd.C_take (Kd.C_below HR1.out HB3.out) hi) (by omega)).mono ?_); rintro e w4 ⟨rfl, hb4⟩; rw [HAN.out]; have HG4 := Aside0.mk (blk_later HG3.out hb4); have HB4 := Aside0.mk (below_step HB3.out hb4); have hc0 := (bv2 HG4.out).1; have hc1 := (bv2 HG4.out).2; clear hb4))
        go_roundw
        case rel => exact ⟨i + 1, rfl, by omega, HH2, HB4⟩
        case measure => simp [intOf]; omega
   ·obtain rfl : i = l1.length := by omega
    have H := HH.out
    rw [List.drop_length, varsGo] at H
    subst H
    have qq2 : decide ((l1.length : Int) < (l1.length : Int)) = false := decide_eq_false (by omega)
    clear HH
    go_wp2
    go_ret
    exact ⟨rfl, HB.out⟩
 ·rw [if_neg hle] at h
  cases h


end


-- NOT PRINTED: function 31 (binding_Check_1)




section
-- STUBBED 11
/-! ### binding_Check: function 11: by hand -/
open Go.Proofs.Ytapkjfnfkalibaa.Names Go.Proofs.Ytapkjfnfkalibaa.Iter

def setsGo : List S51 → Int
 | [] => 0
 | c :: cs => if colV c.f0 c.f1 = 0 then setsGo cs else colV c.f0 c.f1
def inV (vars : List S48) (x : Int) : Bool := decide (0 ≤ x) && decide (x < (vars.length : Int))
def grdE (vars : List S48) (g : S62) : Int := if g.f0 < 1 then 12 else if 3 < g.f0 then 12 else if inV vars g.f1 = true then (if inV vars g.f2 = true then (if (rd_T48 vars g.f1).f1 = (rd_T48 vars g.f2).f1 then 0 else 17) else 1) else 1
def grdsGo (vars : List S48) : List S62 → Int
 | [] => 0
 | g :: gs => if grdE vars g = 0 then grdsGo vars gs else grdE vars g
def chkTail (n : Nat) (vars : List S48) (guards : List S62) : Int := if n < 1 then 2 else if 8 < n then 2 else if 4 < vars.length then 2 else if varsGo n vars [] = 0 then grdsGo vars guards else varsGo n vars []
def chkAll (ls : List S51) (n : Nat) (vars : List S48) (guards : List S62) : Int := if setsGo ls = 0 then chkTail n vars guards else setsGo ls
def binding_Check.f (l0 : List S51) (a1_0 : ByteArray) (l1_1 : List S48) (l1_2 : List S62) (l1_3 : List S111) (l1_4 : List S111) : Option Int := if l0.length ≤ 1000 ∧ l1_2.length ≤ 1000 then some (chkAll l0 l0.length l1_1 l1_2) else none
theorem bc5 {W : World} {g : Nat} {t : TypeId} {x y z u v : Value} (h : Blk W g t [x, y, z, u, v]) : W.cell? ⟨g, 1, none⟩ = some y ∧ W.cell? ⟨g, 2, none⟩ = some z := by
 refine ⟨?_, ?_⟩ <;> simp [World.cell?, show W.heap[g]? = _ from h]
set_option maxHeartbeats 16000000 in
set_option maxRecDepth 100000 in
theorem bc_closure (B : Nat) (a : ByteArray) (A1 A2 A3 A4 : Option Addr) (c1 c2 c3 c4 n2 n3 n4 : Nat) (vars : List S48) (x : Int) (w : World) (hg : Blk w B 27 [.string a, .slice A1 vars.length c1, .slice A2 n2 c2, .slice A3 n3 c3, .slice A4 n4 c4]) :
  Calls Try.prog 31 #[.int .i64 x, .pointer (some ⟨B, 0, none⟩)] w fun e w' => e = .returned (.bool (inV vars x)) ∧ w' = w := by
 have h1 := (bc5 hg).1
 clear hg
 unfold inV
 by_cases hx : 0 ≤ x
 ·have q1 : decide (0 ≤ x) = true := decide_eq_true hx
  rw [q1, Bool.true_and]
  clear hx
  go_enter Try.func31, Try.ntmps31
  go_wp2
  go_ret
  exact ⟨rfl, rfl⟩
 ·have q1 : decide (0 ≤ x) = false := decide_eq_false hx
  rw [q1, Bool.false_and]
  clear hx
  go_enter Try.func31, Try.ntmps31
  go_wp2
  go_ret
  exact ⟨rfl, rfl⟩
set_option maxHeartbeats 16000000 in
set_option maxRecDepth 100000 in
theorem binding_Check.calls (A0 : Option Addr) (c0 : Nat) (l0 : List S51) (a1_0 : ByteArray) (A1_1 : Option Addr) (c1_1 : Nat) (l1_1 : List S48) (A1_2 : Option Addr) (c1_2 : Nat) (l1_2 : List S62) (A1_3 : Option Addr) (c1_3 : Nat) (l1_3 : List S111) (A1_4 : Option Addr) (c1_4 : Nat) (l1_4 : List S111) (r : Int) (w : World) (hr0 : Kd.C k51 w A0 l0.length l0) (hc0 : l0.length ≤ c0) (hr1_1 : Kd.C k48 w A1_1 l1_1.length l1_1) (hc1_1 : l1_1.length ≤ c1_1) (hr1_2 : Kd.C k62 w A1_2 l1_2.length l1_2) (hc1_2 : l1_2.length ≤ c1_2) (hr1_3 : Kd.C k111 w A1_3 l1_3.length l1_3) (hc1_3 : l1_3.length ≤ c1_3) (hr1_4 : Kd.C k111 w A1_4 l1_4.length l1_4) (hc1_4 : l1_4.length ≤ c1_4) (h : binding_Check.f l0 a1_0 l1_1 l1_2 l1_3 l1_4 = some r) :
  Calls Try.prog 11 #[.slice A0 l0.length c0, .agg #[.string a1_0, .slice A1_1 l1_1.length c1_1, .slice A1_2 l1_2.length c1_2, .slice A1_3 l1_3.length c1_3, .slice A1_4 l1_4.length c1_4]] w fun e w' => e = .returned (.int .i64 r) ∧ Below w.heap.size w w' := by
 unfold binding_Check.f at h
 by_cases hle : l0.length ≤ 1000 ∧ l1_2.length ≤ 1000
 ·rw [if_pos hle, Option.some.injEq] at h
  obtain ⟨hle0, hle2⟩ := hle
  have HR0 := Aside0.mk hr0
  have HC0 := Aside0.mk hc0
  have HR1 := Aside0.mk hr1_1
  have HC1 := Aside0.mk hc1_1
  have HR2 := Aside0.mk hr1_2
  clear hr0 hc0 hr1_1 hc1_1 hr1_2 hc1_2 hr1_3 hc1_3 hr1_4 hc1_4
  have HH := Aside0.mk (show chkAll (l0.drop 0) l0.length l1_1 l1_2 = r by rw [List.drop_zero]; exact h)
  clear h
  go_enter Try.func11, Try.ntmps11
  go_wp2
  obtain ⟨w2, hw2⟩ : ∃ w2, w.alloc (.cells #[.string a1_0, .slice A1_1 l1_1.length c1_1, .slice A1_2 l1_2.length c1_2, .slice A1_3 l1_3.length c1_3, .slice A1_4 l1_4.length c1_4] 27) = w2 := ⟨_, rfl⟩
  have HS := Aside0.mk (show Blk w2 w.heap.size 27 [.string a1_0, .slice A1_1 l1_1.length c1_1, .slice A1_2 l1_2.length c1_2, .slice A1_3 l1_3.length c1_3, .slice A1_4 l1_4.length c1_4] from hw2 ▸ World.alloc_heap_new w (.cells #[.string a1_0, .slice A1_1 l1_1.length c1_1, .slice A1_2 l1_2.length c1_2, .slice A1_3 l1_3.length c1_3, .slice A1_4 l1_4.length c1_4] 27))
  have HB := Aside0.mk (show Below w.heap.size w w2 from hw2 ▸ (Below.refl _ w).alloc (Nat.le_refl _) _)
  rw [hw2]
  clear hw2
  go_loopw [14] (fun v14 wr => ∃ i : Nat, v14 = .int .i64 (i : Int) ∧ i ≤ l0.length ∧ Aside0 (chkAll (l0.drop i) l0.length l1_1 l1_2 = r) ∧ Aside0 (Blk wr w.heap.size 27 [.string a1_0, .slice A1_1 l1_1.length c1_1, .slice A1_2 l1_2.length c1_2, .slice A1_3 l1_3.length c1_3, .slice A1_4 l1_4.length c1_4]) ∧ Aside0 (Below w.heap.size w wr)) (fun v14 _ => l0.length + 1 - (intOf v14).toNat)
  case atStart => exact ⟨0, rfl, Nat.zero_le _, HH, HS, HB⟩
  case round =>
   clear HH HS HB
   obtain ⟨i, rfl, hi, HH, HS, HB⟩ := hrel
   by_cases hil : i < l0.length
   ·have H := HH.out
    obtain ⟨ad, Av, cv, e, hx0, hx1, hlv, hcv⟩ := at_T51 HR0.out (i : Int) (by omega) (by omega)
    obtain ⟨s, es⟩ : ∃ s, s = l0[i] := ⟨_, rfl⟩
    rw [show rd_T51 l0 (i : Int) = s by rw [es]; simp [rd_T51, hil]] at hx0 hx1 hlv hcv
    rw [Int.toNat_natCast] at hx0 hx1
    rw [List.drop_eq_getElem_cons hil, chkAll, setsGo, ← es] at H
    replace hx0 := (HB.out.cell (World.block_lt_of_cell? w _ hx0)).trans hx0
    replace hx1 := (HB.out.cell (World.block_lt_of_cell? w _ hx1)).trans hx1
    have HLV := Aside0.mk hlv
    have HCV := Aside0.mk (Kd.C_below hcv HB.out)
    cases e
    clear es hlv hcv
    have p1 : (0 ≤ (i : Int)) = True := eq_true (by omega)
    have qq1 : ((i : Int) < (l0.length : Int)) = True := eq_true (by omega)
    have qq2 : decide ((i : Int) < (l0.length : Int)) = true := decide_eq_true (by omega)
    by_cases hcz : colV s.f0 s.f1 = 0
    ·rw [if_pos hcz] at H
     have HH2 := Aside0.mk (show chkAll (l0.drop (i + 1)) l0.length l1_1 l1_2 = r from H)
     have HCE := Aside0.mk (show colorset_Check.f s.f0 s.f1 = some 0 by unfold colorset_Check.f; rw [hcz])
     clear H hcz
     go_wp2_with (go_at_call 29; (with_reducible refine (colorset_Check.calls s.f0 Av cv s.f1 0 _ ?cv HLV.out HCE.out).mono ?_); (case cv => repeat (first | exact HCV.out | (with_reducible refine Kd.C_alloc ?_ _) | (with_reducible refine Kd.C_drewN ?_ _) | (with_reducible refine Kd.C_drew ?_))); rintro e w3 ⟨rfl, hb3⟩; have HB3 := Aside0.mk (below_step (show Below w.heap.size w _ from below_alloc HB.out _) hb3); have HS3 := Aside0.mk (blk_later (show Blk _ w.heap.size 27 [.string a1_0, .slice A1_1 l1_1.length c1_1, .slice A1_2 l1_2.length c1_2, .slice A1_3 l1_3.length c1_3, .slice A1_4 l1_4.length c1_4] from blk_alloc HS.out _) hb3); clear hb3)
     go_roundw
     case rel => exact ⟨i + 1, rfl, by omega, HH2, HS3, HB3⟩
     case measure => simp [intOf]; omega
    ·rw [if_neg hcz, if_neg hcz] at H
     have HCE := Aside0.mk (show colorset_Check.f s.f0 s.f1 = some r by unfold colorset_Check.f; rw [H])
     have q5 : (r != 0) = true := bne_iff_ne.2 (by rw [← H]; exact hcz)
     clear H hcz
     go_wp2_with (go_at_call 29; (with_reducible refine (colorset_Check.calls s.f0 Av cv s.f1 r _ ?cv HLV.out HCE.out).mono ?_); (case cv => repeat (first | exact HCV.out | (with_reducible refine Kd.C_alloc ?_ _) | (with_reducible refine Kd.C_drewN ?_ _) | (with_reducible refine Kd.C_drew ?_))); rintro e w3 ⟨rfl, hb3⟩; have HB3 := Aside0.mk (below_step (show Below w.heap.size w _ from below_alloc HB.out _) hb3); have HS3 := Aside0.mk (blk_later (show Blk _ w.heap.size 27 [.string a1_0, .slice A1_1 l1_1.length c1_1, .slice A1_2 l1_2.length c1_2, .slice A1_3 l1_3.length c1_3, .slice A1_4 l1_4.length c1_4] from blk_alloc HS.out _) hb3); clear hb3)
     go_ret
     exact ⟨rfl, HB3.out⟩
   ·obtain rfl : i = l0.length := by omega
    have H := HH.out
    rw [List.drop_length, chkAll, show setsGo [] = 0 from rfl, if_pos rfl] at H
    have qq2 : decide ((l0.length : Int) < (l0.length : Int)) = false := decide_eq_false (by omega)
    have hv1 := (bc5 HS.out).1
    have hv2 := (bc5 HS.out).2
    clear HH
    unfold chkTail at H
    by_cases t1 : l0.length < 1
    ·rw [if_pos t1] at H
     subst H
     have q5 : decide ((l0.length : Int) < 1) = true := decide_eq_true (by omega)
     go_wp2
     go_ret
     exact ⟨rfl, HB.out⟩
    ·rw [if_neg t1] at H
     have q5 : decide ((l0.length : Int) < 1) = false := decide_eq_false (by omega)
     by_cases t2 : 8 < l0.length
     ·rw [if_pos t2] at H
      subst H
      have q6 : decide ((8 : Int) < (l0.length : Int)) = true := decide_eq_true (by omega)
      go_wp2
      go_ret
      exact ⟨rfl, HB.out⟩
     ·rw [if_neg t2] at H
      have q6 : decide ((8 : Int) < (l0.length : Int)) = false := decide_eq_false (by omega)
      by_cases t3 : 4 < l1_1.length
      ·rw [if_pos t3] at H
       subst H
       have q7 : decide ((4 : Int) < (l1_1.length : Int)) = true := decide_eq_true (by omega)
       go_wp2
       go_ret
       exact ⟨rfl, HB.out⟩
      ·rw [if_neg t3] at H
       have q7 : decide ((4 : Int) < (l1_1.length : Int)) = false := decide_eq_false (by omega)
       by_cases t4 : varsGo l0.length l1_1 [] = 0
       ·rw [if_pos t4] at H
        have HVE := Aside0.mk (show binding_variables.f l0 l1_1 = some 0 by unfold binding_variables.f; rw [if_pos (by omega), t4])
        have HH := Aside0.mk (show grdsGo l1_1 (l1_2.drop 0) = r by rw [List.drop_zero]; exact H)
        clear H t4
        go_wp2_with (go_at_call 30; (with_reducible refine (binding_variables.calls A0 c0 l0 A1_1 c1_1 l1_1 0 _ ?ca HC0.out ?cb HC1.out HVE.out).mono ?_); (case ca => exact Kd.C_below HR0.out HB.out); (case cb => exact Kd.C_below HR1.out HB.out); rintro e w3 ⟨rfl, hb3⟩; have HB3 := Aside0.mk (below_step HB.out hb3); have HS3 := Aside0.mk (blk_later HS.out hb3); have hv1 := (bc5 HS3.out).1; have hv2 := (bc5 HS3.out).2; clear hb3)
        go_loopw [49] (fun v49 wr => ∃ j : Nat, v49 = .int .i64 (j : Int) ∧ j ≤ l1_2.length ∧ Aside0 (grdsGo l1_1 (l1_2.drop j) = r) ∧ Aside0 (Blk wr w.heap.size 27 [.string a1_0, .slice A1_1 l1_1.length c1_1, .slice A1_2 l1_2.length c1_2, .slice A1_3 l1_3.length c1_3, .slice A1_4 l1_4.length c1_4]) ∧ Aside0 (Below w.heap.size w wr)) (fun v49 _ => l1_2.length + 1 - (intOf v49).toNat)
        case atStart => exact ⟨0, rfl, Nat.zero_le _, HH, HS3, HB3⟩
        case round =>
         clear HH HS3 HB3 HS HB hv1 hv2
         obtain ⟨j, rfl, hj, HH, HS, HB⟩ := hrel
         by_cases hjl : j < l1_2.length
         ·have H := HH.out
          obtain ⟨adg, eg, hg0, hg1, hg2⟩ := at_T62 HR2.out (j : Int) (by omega) (by omega)
          obtain ⟨g, egg⟩ : ∃ g, g = l1_2[j] := ⟨_, rfl⟩
          rw [show rd_T62 l1_2 (j : Int) = g by rw [egg]; simp [rd_T62, hjl]] at hg0 hg1 hg2
          rw [Int.toNat_natCast] at hg0 hg1 hg2
          rw [List.drop_eq_getElem_cons hjl, grdsGo, ← egg] at H
          replace hg0 := (HB.out.cell (World.block_lt_of_cell? w _ hg0)).trans hg0
          replace hg1 := (HB.out.cell (World.block_lt_of_cell? w _ hg1)).trans hg1
          replace hg2 := (HB.out.cell (World.block_lt_of_cell? w _ hg2)).trans hg2
          cases eg
          clear egg
          have hv1 := (fun o => (bc5 (blk_alloc HS.out o)).1)
          have hsr := HB.out.size
          have p1 : (0 ≤ (j : Int)) = True := eq_true (by omega)
          have qq1 : ((j : Int) < (l1_2.length : Int)) = True := eq_true (by omega)
          have qq3 : decide ((j : Int) < (l1_2.length : Int)) = true := decide_eq_true (by omega)
          clear q5 q6 q7 qq2
          by_cases g0 : g.f0 < 1
          ·have hE : grdE l1_1 g = 12 := by unfold grdE; rw [if_pos g0]
           rw [hE, if_neg (by decide)] at H
           subst H
           have q5 : decide (g.f0 < 1) = true := decide_eq_true g0
           clear g0 hE
           go_wp2
           go_ret
           exact ⟨rfl, below_alloc HB.out _⟩
          ·have q5 : decide (g.f0 < 1) = false := decide_eq_false g0
           by_cases g3 : 3 < g.f0
           ·have hE : grdE l1_1 g = 12 := by unfold grdE; rw [if_neg g0, if_pos g3]
            rw [hE, if_neg (by decide)] at H
            subst H
            have q6 : decide (3 < g.f0) = true := decide_eq_true g3
            clear g0 g3 hE
            go_wp2
            go_ret
            exact ⟨rfl, below_alloc HB.out _⟩
           ·have q6 : decide (3 < g.f0) = false := decide_eq_false g3
            cases hi1 : inV l1_1 g.f1 with
            | false =>
             have hE : grdE l1_1 g = 1 := by unfold grdE; rw [if_neg g0, if_neg g3, hi1, if_neg (by simp)]
             rw [hE, if_neg (by decide)] at H
             subst H
             have HI1 := Aside0.mk hi1
             have HI2 := HI1
             clear g0 g3 hE hi1
             go_wp2_with (go_at_call 31; (refine (bc_closure w.heap.size _ _ _ _ _ _ _ _ _ _ _ _ l1_1 _ _ (blk_alloc HS.out _)).mono ?_); rintro e w5 ⟨rfl, rfl⟩; (first | rw [HI1.out] | rw [HI2.out]))
             go_ret
             exact ⟨rfl, below_alloc HB.out _⟩
            | true =>
             have HI1 := Aside0.mk hi1
             cases hi2 : inV l1_1 g.f2 with
             | false =>
              have hE : grdE l1_1 g = 1 := by unfold grdE; rw [if_neg g0, if_neg g3, hi1, if_pos rfl, hi2, if_neg (by simp)]
              rw [hE, if_neg (by decide)] at H
              subst H
              have HI2 := Aside0.mk hi2
              clear g0 g3 hE hi1 hi2
              go_wp2_with (go_at_call 31; (refine (bc_closure w.heap.size _ _ _ _ _ _ _ _ _ _ _ _ l1_1 _ _ (blk_alloc HS.out _)).mono ?_); rintro e w5 ⟨rfl, rfl⟩; (first | rw [HI1.out] | rw [HI2.out]))
              go_ret
              exact ⟨rfl, below_alloc HB.out _⟩
             | true =>
              have HI2 := Aside0.mk hi2
              have hb1 : 0 ≤ g.f1 ∧ g.f1 < (l1_1.length : Int) := by unfold inV at hi1; simpa using hi1
              have hb2 : 0 ≤ g.f2 ∧ g.f2 < (l1_1.length : Int) := by unfold inV at hi2; simpa using hi2
              obtain ⟨adv, ev1, hy0, hy1⟩ := at_T48 HR1.out g.f1 hb1.1 hb1.2
              obtain ⟨adw, ev2, hz0, hz1⟩ := at_T48 HR1.out g.f2 hb2.1 hb2.2
              obtain rfl : adv = adw := by rw [ev1] at ev2; injection ev2
              have hY1 : ∀ o, (wr.alloc o).cell? _ = _ := fun o => ((below_alloc HB.out o).cell (World.block_lt_of_cell? w _ hy1)).trans hy1
              have hZ1 : ∀ o, (wr.alloc o).cell? _ = _ := fun o => ((below_alloc HB.out o).cell (World.block_lt_of_cell? w _ hz1)).trans hz1
              have r1 : (0 ≤ g.f1) = True := eq_true hb1.1
              have r2 : (g.f1 < (l1_1.length : Int)) = True := eq_true hb1.2
              have r3 : (0 ≤ g.f2) = True := eq_true hb2.1
              have r4 : (g.f2 < (l1_1.length : Int)) = True := eq_true hb2.2
              cases ev1
              clear ev2 hy0 hy1 hz0 hz1 hb1 hb2
              by_cases hse : (rd_T48 l1_1 g.f1).f1 = (rd_T48 l1_1 g.f2).f1
              ·have hE : grdE l1_1 g = 0 := by unfold grdE; rw [if_neg g0, if_neg g3, hi1, if_pos rfl, hi2, if_pos rfl, if_pos hse]
               rw [hE, if_pos rfl] at H
               have HH2 := Aside0.mk H
               have q8 : ((rd_T48 l1_1 g.f1).f1 != (rd_T48 l1_1 g.f2).f1) = false := by rw [hse]; simp
               clear g0 g3 hE hi1 hi2 hse H
               go_wp2_with (go_at_call 31; (refine (bc_closure w.heap.size _ _ _ _ _ _ _ _ _ _ _ _ l1_1 _ _ (blk_alloc HS.out _)).mono ?_); rintro e w5 ⟨rfl, rfl⟩; (first | rw [HI1.out] | rw [HI2.out]))
               go_region
               all_goals go_wp2
               all_goals go_roundw
               case rel => exact ⟨j + 1, rfl, by omega, HH2, ⟨by unfold Blk; (with_reducible repeat (first | refine blk_drewN ?_ _ | refine blk_drew ?_ | refine blk_alloc ?_ _)); exact HS.out⟩, ⟨by (with_reducible repeat (first | apply pw_below_drewN | apply below_drew1)); exact below_alloc HB.out _⟩⟩
               case measure => simp [intOf]; omega
              ·have hE : grdE l1_1 g = 17 := by unfold grdE; rw [if_neg g0, if_neg g3, hi1, if_pos rfl, hi2, if_pos rfl, if_neg hse]
               rw [hE, if_neg (by decide)] at H
               subst H
               have q8 : ((rd_T48 l1_1 g.f1).f1 != (rd_T48 l1_1 g.f2).f1) = true := bne_iff_ne.2 hse
               clear g0 g3 hE hi1 hi2 hse
               go_wp2_with (go_at_call 31; (refine (bc_closure w.heap.size _ _ _ _ _ _ _ _ _ _ _ _ l1_1 _ _ (blk_alloc HS.out _)).mono ?_); rintro e w5 ⟨rfl, rfl⟩; (first | rw [HI1.out] | rw [HI2.out]))
               go_region
               all_goals go_wp2
               all_goals go_ret
               all_goals exact ⟨rfl, by (with_reducible repeat (first | apply pw_below_drewN | apply below_drew1)); exact below_alloc HB.out _⟩
         ·obtain rfl : j = l1_2.length := by omega
          have H := HH.out
          rw [List.drop_length, grdsGo] at H
          subst H
          have qq3 : decide ((l1_2.length : Int) < (l1_2.length : Int)) = false := decide_eq_false (by omega)
          clear HH
          go_wp2
          go_ret
          exact ⟨rfl, HB.out⟩
       ·rw [if_neg t4] at H
        have HVE := Aside0.mk (show binding_variables.f l0 l1_1 = some r by unfold binding_variables.f; rw [if_pos (by omega), H])
        have q8 : (r != 0) = true := bne_iff_ne.2 (by rw [← H]; exact t4)
        clear H t4
        go_wp2_with (go_at_call 30; (with_reducible refine (binding_variables.calls A0 c0 l0 A1_1 c1_1 l1_1 r _ ?ca HC0.out ?cb HC1.out HVE.out).mono ?_); (case ca => exact Kd.C_below HR0.out HB.out); (case cb => exact Kd.C_below HR1.out HB.out); rintro e w3 ⟨rfl, hb3⟩; have HB3 := Aside0.mk (below_step HB.out hb3); have HS3 := Aside0.mk (blk_later HS.out hb3); have hv1 := (bc5 HS3.out).1; have hv2 := (bc5 HS3.out).2; clear hb3)
        go_ret
        exact ⟨rfl, HB3.out⟩
 ·rw [if_neg hle] at h
  cases h


end



/-! ### binding_term: function 35 -/
mutual
def binding_term.j0 : Nat → List (S51) → Int → Bool → ByteArray → List (S48) → List (S62) → List (S111) → List (S111) → Int → Int → Int → Option (Int)
 | 0, _, _, _, _, _, _, _, _, _, _, _ => none
 | k + 1, x0, x2, x17, x110000, x110001, x110002, x110003, x110004, x111000, x111001, x111002 => if x17 = true then (some 9) else (if 0 ≤ x2 then (if x2 < (x0.length : Int) then (if x111001 = 2 then (binding_term.j1 k x2 (((rd_T51 x0 x2).f1).length : Int) x111001 (x111001 == 2) x110000 x110001 x110002 x110003 x110004 x111000 x111001 x111002) else (if x111001 = 3 then (binding_term.j1 k x2 (((rd_T51 x0 x2).f1).length : Int) x111001 (x111001 == 3) x110000 x110001 x110002 x110003 x110004 x111000 x111001 x111002) else (binding_term.j1 k x2 (((rd_T51 x0 x2).f1).length : Int) x111001 (x111001 == 4) x110000 x110001 x110002 x110003 x110004 x111000 x111001 x111002))) else (none)) else (none))
def binding_term.j1 : Nat → Int → Int → Int → Bool → ByteArray → List (S48) → List (S62) → List (S111) → List (S111) → Int → Int → Int → Option (Int)
 | 0, _, _, _, _, _, _, _, _, _, _, _, _ => none
 | k + 1, x2, x9, x25, x26, x110000, x110001, x110002, x110003, x110004, x111000, x111001, x111002 => if x26 = true then (if x111002 < 0 then (binding_term.j2 k x2 true x110000 x110001 x110002 x110003 x110004 x111000 x111001 x111002) else (binding_term.j2 k x2 (decide (x111002 ≥ (x110001.length : Int))) x110000 x110001 x110002 x110003 x110004 x111000 x111001 x111002)) else (if x25 = 5 then (if x111002 < 0 then (some 1) else (if x111002 ≥ 1 then (some 1) else (some 0))) else (if x25 = 1 then (if x111002 < 0 then (some 1) else (if x111002 ≥ x9 then (some 1) else (some 0))) else (some 12)))
def binding_term.j2 : Nat → Int → Bool → ByteArray → List (S48) → List (S62) → List (S111) → List (S111) → Int → Int → Int → Option (Int)
 | 0, _, _, _, _, _, _, _, _, _, _ => none
 | k + 1, x2, x44, x110000, x110001, x110002, x110003, x110004, x111000, x111001, x111002 => if x44 = true then (some 1) else (if 0 ≤ x111002 then (if x111002 < (x110001.length : Int) then (if ((rd_T48 x110001 x111002).f1) = x2 then (some 0) else (some 17)) else (none)) else (none))
end
def binding_term.f (k : Nat) (l0 : List (S51)) (a1_0 : ByteArray) (l1_1 : List (S48)) (l1_2 : List (S62)) (l1_3 : List (S111)) (l1_4 : List (S111)) (a2 : Int) (a3_0 : Int) (a3_1 : Int) (a3_2 : Int) : Option (Int) := if a3_0 < 1 then (binding_term.j0 k l0 a2 true a1_0 l1_1 l1_2 l1_3 l1_4 a3_0 a3_1 a3_2) else (binding_term.j0 k l0 a2 (decide (a3_0 > 99)) a1_0 l1_1 l1_2 l1_3 l1_4 a3_0 a3_1 a3_2)
theorem binding_term.mono_l : ∀ k, (∀ y0 y1 y2 y3 y4 y5 y6 y7 y8 y9 y10, LeO (binding_term.j0 k y0 y1 y2 y3 y4 y5 y6 y7 y8 y9 y10) (binding_term.j0 (k + 1) y0 y1 y2 y3 y4 y5 y6 y7 y8 y9 y10)) ∧ (∀ y0 y1 y2 y3 y4 y5 y6 y7 y8 y9 y10 y11, LeO (binding_term.j1 k y0 y1 y2 y3 y4 y5 y6 y7 y8 y9 y10 y11) (binding_term.j1 (k + 1) y0 y1 y2 y3 y4 y5 y6 y7 y8 y9 y10 y11)) ∧ (∀ y0 y1 y2 y3 y4 y5 y6 y7 y8 y9, LeO (binding_term.j2 k y0 y1 y2 y3 y4 y5 y6 y7 y8 y9) (binding_term.j2 (k + 1) y0 y1 y2 y3 y4 y5 y6 y7 y8 y9))
 | 0 => ⟨fun _ _ _ _ _ _ _ _ _ _ _ r h => by simp [binding_term.j0] at h, fun _ _ _ _ _ _ _ _ _ _ _ _ r h => by simp [binding_term.j1] at h, fun _ _ _ _ _ _ _ _ _ _ r h => by simp [binding_term.j2] at h⟩
 | k + 1 => by
  obtain ⟨ih0, ih1, ih2⟩ := binding_term.mono_l k
  refine ⟨?_, ?_, ?_⟩
  ·intro y0 y1 y2 y3 y4 y5 y6 y7 y8 y9 y10
   unfold binding_term.j0
   repeat' first
   | (with_reducible first | exact ih0 _ _ _ _ _ _ _ _ _ _ _ | exact ih1 _ _ _ _ _ _ _ _ _ _ _ _ | exact ih2 _ _ _ _ _ _ _ _ _ _ | exact LeO.refl _ | exact LeO.none _ | refine LeO.ite ?_ ?_ | refine LeO.bind ?_ (fun _ => ?_))
   | exact LeO.none _
   | refine LeO.ite ?_ ?_
   | refine LeO.bind ?_ (fun _ => ?_)
  ·intro y0 y1 y2 y3 y4 y5 y6 y7 y8 y9 y10 y11
   unfold binding_term.j1
   repeat' first
   | (with_reducible first | exact ih0 _ _ _ _ _ _ _ _ _ _ _ | exact ih1 _ _ _ _ _ _ _ _ _ _ _ _ | exact ih2 _ _ _ _ _ _ _ _ _ _ | exact LeO.refl _ | exact LeO.none _ | refine LeO.ite ?_ ?_ | refine LeO.bind ?_ (fun _ => ?_))
   | exact LeO.none _
   | refine LeO.ite ?_ ?_
   | refine LeO.bind ?_ (fun _ => ?_)
  ·intro y0 y1 y2 y3 y4 y5 y6 y7 y8 y9
   unfold binding_term.j2
   repeat' first
   | (with_reducible first | exact ih0 _ _ _ _ _ _ _ _ _ _ _ | exact ih1 _ _ _ _ _ _ _ _ _ _ _ _ | exact ih2 _ _ _ _ _ _ _ _ _ _ | exact LeO.refl _ | exact LeO.none _ | refine LeO.ite ?_ ?_ | refine LeO.bind ?_ (fun _ => ?_))
   | exact LeO.none _
   | refine LeO.ite ?_ ?_
   | refine LeO.bind ?_ (fun _ => ?_)
theorem binding_term.mono : ∀ a0 a1 a2 a3 a4 a5 a6 a7 a8 a9 k, LeO (binding_term.f k a0 a1 a2 a3 a4 a5 a6 a7 a8 a9) (binding_term.f (k + 1) a0 a1 a2 a3 a4 a5 a6 a7 a8 a9) := by
 intro a0 a1 a2 a3 a4 a5 a6 a7 a8 a9 k
 obtain ⟨ih0, ih1, ih2⟩ := binding_term.mono_l k
 unfold binding_term.f
 repeat' first
   | (with_reducible first | exact ih0 _ _ _ _ _ _ _ _ _ _ _ | exact ih1 _ _ _ _ _ _ _ _ _ _ _ _ | exact ih2 _ _ _ _ _ _ _ _ _ _ | exact LeO.refl _ | exact LeO.none _ | refine LeO.ite ?_ ?_ | refine LeO.bind ?_ (fun _ => ?_))
   | exact LeO.none _
   | refine LeO.ite ?_ ?_
   | refine LeO.bind ?_ (fun _ => ?_)
set_option maxHeartbeats 8000000 in
set_option maxRecDepth 100000 in
theorem binding_term.calls (k : Nat) (A0 : Option Addr) (c0 : Nat) (l0 : List (S51)) (a1_0 : ByteArray) (A1_1 : Option Addr) (c1_1 : Nat) (l1_1 : List (S48)) (A1_2 : Option Addr) (c1_2 : Nat) (l1_2 : List (S62)) (A1_3 : Option Addr) (c1_3 : Nat) (l1_3 : List (S111)) (A1_4 : Option Addr) (c1_4 : Nat) (l1_4 : List (S111)) (a2 : Int) (a3_0 : Int) (a3_1 : Int) (a3_2 : Int) (r : Int) (w : World) (hr0 : Kd.C k51 w A0 l0.length l0) (hc0 : l0.length ≤ c0) (hr1_1 : Kd.C k48 w A1_1 l1_1.length l1_1) (hc1_1 : l1_1.length ≤ c1_1) (hr1_2 : Kd.C k62 w A1_2 l1_2.length l1_2) (hc1_2 : l1_2.length ≤ c1_2) (hr1_3 : Kd.C k111 w A1_3 l1_3.length l1_3) (hc1_3 : l1_3.length ≤ c1_3) (hr1_4 : Kd.C k111 w A1_4 l1_4.length l1_4) (hc1_4 : l1_4.length ≤ c1_4) (h : binding_term.f k l0 a1_0 l1_1 l1_2 l1_3 l1_4 a2 a3_0 a3_1 a3_2 = some r) :
  Calls Try.prog 35 #[.slice A0 l0.length c0, .agg #[.string a1_0, .slice A1_1 l1_1.length c1_1, .slice A1_2 l1_2.length c1_2, .slice A1_3 l1_3.length c1_3, .slice A1_4 l1_4.length c1_4], .int .i64 a2, .agg #[.int .i64 a3_0, .int .i64 a3_1, .int .i64 a3_2]] w fun e w' => e = .returned (.int .i64 r) ∧ Below w.heap.size w w' := by
 have hu27 := Try.underlying27; have hu9 := Try.underlying9; have hu23 := Try.underlying23; have hu24 := Try.underlying24; have hu25 := Try.underlying25; have hu54 := Try.underlying54; have hu3 := Try.underlying3; have HR0 := aM hr0; have HC0 := aM hc0; clear hr0 hc0; have HR1_1 := aM hr1_1; have HC1_1 := aM hc1_1; clear hr1_1 hc1_1; have HR1_2 := aM hr1_2; have HC1_2 := aM hc1_2; clear hr1_2 hc1_2; have HR1_3 := aM hr1_3; have HC1_3 := aM hc1_3; clear hr1_3 hc1_3; have HR1_4 := aM hr1_4; have HC1_4 := aM hc1_4; clear hr1_4 hc1_4; have HB := aM (Below.refl w.heap.size w); have H : (if a3_0 < 1 then (binding_term.j0 k l0 a2 true a1_0 l1_1 l1_2 l1_3 l1_4 a3_0 a3_1 a3_2) else (binding_term.j0 k l0 a2 (decide (a3_0 > 99)) a1_0 l1_1 l1_2 l1_3 l1_4 a3_0 a3_1 a3_2)) = some r := h; clear h; have HC5 := aM H; clear H
 go_enter Try.func35, Try.ntmps35
 go_upto_region 1 with (first | ((with_reducible refine gate_dst (N := 5) rfl ?_); (try (refine gate_guard (by rfl) ?_; dsimp only)); refine box_event ?hg (N := 5) ?hd (cs := #[.string a1_0, .slice A1_1 l1_1.length c1_1, .slice A1_2 l1_2.length c1_2, .slice A1_3 l1_3.length c1_3, .slice A1_4 l1_4.length c1_4]) (t := 27) ?hr ?_; (case hd => rfl); (case hg => rfl); (case hr => first | (go_simp; done) | (go_simp; rfl)); intro gb109 hg w6 hbox hb; have n0_ := aM (below_step (bB HB.out) hb); have n1_ := aM (hbox); have n2_ := aM ((by rw [hg]; exact (below_size (bB HB.out)) : w.heap.size ≤ gb109)); have n3_ := aM ((by rw [hg]; exact (below_size (bB HB.out)) : w.heap.size ≤ gb109)); clear HB; have HB := n0_; have BK109 := n1_; have GW109 := n2_; have GE109 := n3_; clear n0_ n1_ n2_ n3_; clear hb hbox hg) | ((with_reducible refine gate_dst (N := 7) rfl ?_); (try (refine gate_guard (by rfl) ?_; dsimp only)); refine box_event ?hg (N := 7) ?hd (cs := #[.int .i64 a3_0, .int .i64 a3_1, .int .i64 a3_2]) (t := 54) ?hr ?_; (case hd => rfl); (case hg => rfl); (case hr => first | (go_simp; done) | (go_simp; rfl)); intro gb110 hg w7 hbox hb; have n0_ := aM (kW BK109.out hb); have n1_ := aM (below_step (bB1 HB.out GE109.out) hb); have n2_ := aM (hbox); have n3_ := aM ((by rw [hg]; exact (below_size (bB1 HB.out GE109.out)) : w.heap.size ≤ gb110)); have n4_ := aM ((by rw [hg]; exact (below_size (bB1 HB.out GE109.out)) : w.heap.size ≤ gb110)); have n5_ := aM ((by rw [hg]; exact Nat.ne_of_lt (kL BK109.out) : gb109 ≠ gb110)); have n6_ := aM ((by rw [hg]; exact Nat.ne_of_gt (kL BK109.out) : gb110 ≠ gb109)); clear BK109; clear HB; have BK109 := n0_; have HB := n1_; have BK110 := n2_; have GW110 := n3_; have GE110 := n4_; have NB109_110 := n5_; have NB110_109 := n6_; clear n0_ n1_ n2_ n3_ n4_ n5_ n6_; clear hb hbox hg))
 (try simp only [Act.put, List.setIfInBounds_toArray, List.set_cons_zero, List.set_cons_succ])
 go_cut [17] (fun v17 wc => ∃ (kq : Nat) (x17_4 : Bool), v17 = .bool x17_4 ∧ Aside0 (binding_term.j0 kq l0 a2 x17_4 a1_0 l1_1 l1_2 l1_3 l1_4 a3_0 a3_1 a3_2 = some r) ∧ Aside0 (kq ≤ k) ∧ Aside0 (wc.heap[gb109]? = some (.cells #[.string a1_0, (.slice A1_1 l1_1.length c1_1), (.slice A1_2 l1_2.length c1_2), (.slice A1_3 l1_3.length c1_3), (.slice A1_4 l1_4.length c1_4)] 27 (0, 0))) ∧ Aside0 (wc.heap[gb110]? = some (.cells #[.int .i64 a3_0, .int .i64 a3_1, .int .i64 a3_2] 54 (0, 0))) ∧ Aside0 (Below w.heap.size w wc))
 case first =>
  have H := HC5.out; clear HC5
  by_cases c8 : a3_0 < 1
  ·rw [if_pos c8] at H
   have c8b0 : decide (a3_0 < 1) = true := decide_eq_true c8; clear c8
   (first | rw [c8b0] | (simp only [i64_w, i32_w]; rw [c8b0]) | skip)
   have H' := aM H
   clear H; have hnb9 := NB110_109.out; have hnc9 := NB109_110.out
   have hcz10_0 : w7.cell? ⟨gb110, 0, none⟩ = some (.int .i64 a3_0) := (blk_cell BK110.out 0).trans rfl
   have hcz10_1 : w7.cell? ⟨gb110, 1, none⟩ = some (.int .i64 a3_1) := (blk_cell BK110.out 1).trans rfl
   have hcz10_2 : w7.cell? ⟨gb110, 2, none⟩ = some (.int .i64 a3_2) := (blk_cell BK110.out 2).trans rfl
   have hfz10_0 := blk_frozen BK110.out 0; have hfz10_1 := blk_frozen BK110.out 1; have hfz10_2 := blk_frozen BK110.out 2
   go_wp2
   go_meet
   case rel => exact ⟨_, (true), eT, H', ⟨by first | omega | exact Nat.le_refl _⟩, ⟨kB BK109.out⟩, ⟨kB BK110.out⟩, ⟨bB2 HB.out GE109.out GE110.out⟩⟩
  ·rw [if_neg c8] at H
   have c8b0 : decide (a3_0 < 1) = false := decide_eq_false c8; clear c8
   (first | rw [c8b0] | (simp only [i64_w, i32_w]; rw [c8b0]) | skip)
   have H' := aM H
   clear H; have hnb11 := NB110_109.out; have hnc11 := NB109_110.out
   have hcz12_0 : w7.cell? ⟨gb110, 0, none⟩ = some (.int .i64 a3_0) := (blk_cell BK110.out 0).trans rfl
   have hcz12_1 : w7.cell? ⟨gb110, 1, none⟩ = some (.int .i64 a3_1) := (blk_cell BK110.out 1).trans rfl
   have hcz12_2 : w7.cell? ⟨gb110, 2, none⟩ = some (.int .i64 a3_2) := (blk_cell BK110.out 2).trans rfl
   have hfz12_0 := blk_frozen BK110.out 0; have hfz12_1 := blk_frozen BK110.out 1; have hfz12_2 := blk_frozen BK110.out 2
   go_wp2
   go_meet
   case rel => exact ⟨_, (decide (a3_0 > 99)), eT, H', ⟨by first | omega | exact Nat.le_refl _⟩, ⟨kB BK109.out⟩, ⟨kB BK110.out⟩, ⟨bB2 HB.out GE109.out GE110.out⟩⟩
 case rest =>
  clear HC5; obtain ⟨kq, x17_4, rfl, HA, HJ4, BK109, BK110, HB⟩ := hcut
  cases kq with
  | zero => exact absurd HA.out (by simp [binding_term.j0])
  | succ kj4 =>
   have H := HA.out; clear HA
   simp only [binding_term.j0] at H
   by_cases c13 : x17_4 = true
   ·subst c13
    have H1 : (some 9) = some r := by rw [if_pos rfl] at H; exact H
    clear H; have H := H1; clear H1
    obtain rfl := Option.some.inj H
    go_wp2
    go_ret
    exact ⟨rT, bB2 HB.out GE109.out GE110.out⟩
   ·replace c13 := Bool.eq_false_iff.mpr c13
    subst c13
    have H1 : (if 0 ≤ a2 then (if a2 < (l0.length : Int) then (if a3_1 = 2 then (binding_term.j1 kj4 a2 (((rd_T51 l0 a2).f1).length : Int) a3_1 (a3_1 == 2) a1_0 l1_1 l1_2 l1_3 l1_4 a3_0 a3_1 a3_2) else (if a3_1 = 3 then (binding_term.j1 kj4 a2 (((rd_T51 l0 a2).f1).length : Int) a3_1 (a3_1 == 3) a1_0 l1_1 l1_2 l1_3 l1_4 a3_0 a3_1 a3_2) else (binding_term.j1 kj4 a2 (((rd_T51 l0 a2).f1).length : Int) a3_1 (a3_1 == 4) a1_0 l1_1 l1_2 l1_3 l1_4 a3_0 a3_1 a3_2))) else (none)) else (none)) = some r := by rw [if_neg (show ¬ (false = true) by decide)] at H; exact H
    clear H; have H := H1; clear H1
    by_cases c14 : 0 ≤ a2
    ·rw [if_pos c14] at H
     have c14b0 : decide (0 ≤ a2) = true := decide_eq_true c14; clear c14
     by_cases c15 : a2 < (l0.length : Int)
     ·rw [if_pos c15] at H
      have c15b0 : decide (a2 < (l0.length : Int)) = true := decide_eq_true c15; clear c15; have HC16 := aM H; clear H; have p111 : 0 ≤ (a2 : Int) := dT; have q111 : a2 < (l0.length : Int) := dT; obtain ⟨ad111, A111_1, c111_1, e111, hx111_0, hx111_1, hl111_1, hi111_1⟩ := at_T51 HR0.out a2 p111 q111; cases e111
      try replace hx111_0 := (HB.out.cell (World.block_lt_of_cell? w _ hx111_0)).trans hx111_0
      try replace hx111_1 := (HB.out.cell (World.block_lt_of_cell? w _ hx111_1)).trans hx111_1
      have HR111_1 := aM hi111_1; have HC111_1 := aM hl111_1; clear hi111_1 hl111_1; replace p111 := eq_true p111; replace q111 := eq_true q111; have hnb17 := NB110_109.out; have hnc17 := NB109_110.out
      have hcz18_0 : wc.cell? ⟨gb110, 0, none⟩ = some (.int .i64 a3_0) := (blk_cell BK110.out 0).trans rfl
      have hcz18_1 : wc.cell? ⟨gb110, 1, none⟩ = some (.int .i64 a3_1) := (blk_cell BK110.out 1).trans rfl
      have hcz18_2 : wc.cell? ⟨gb110, 2, none⟩ = some (.int .i64 a3_2) := (blk_cell BK110.out 2).trans rfl
      have hfz18_0 := blk_frozen BK110.out 0; have hfz18_1 := blk_frozen BK110.out 1; have hfz18_2 := blk_frozen BK110.out 2
      go_upto_if 26 with (fail)
      go_cut [26] (fun v26 wc => ∃ (kq : Nat) (x26_15 : Bool), v26 = .bool x26_15 ∧ Aside0 (binding_term.j1 kq a2 (((rd_T51 l0 a2).f1).length : Int) a3_1 x26_15 a1_0 l1_1 l1_2 l1_3 l1_4 a3_0 a3_1 a3_2 = some r) ∧ Aside0 (kq ≤ kj4) ∧ Aside0 (wc.heap[gb109]? = some (.cells #[.string a1_0, (.slice A1_1 l1_1.length c1_1), (.slice A1_2 l1_2.length c1_2), (.slice A1_3 l1_3.length c1_3), (.slice A1_4 l1_4.length c1_4)] 27 (0, 0))) ∧ Aside0 (wc.heap[gb110]? = some (.cells #[.int .i64 a3_0, .int .i64 a3_1, .int .i64 a3_2] 54 (0, 0))) ∧ Aside0 (Below w.heap.size w wc))
      case first =>
       have H := HC16.out; clear HC16
       by_cases c19 : a3_1 = 2
       ·rw [if_pos c19] at H
        have c19b0 : (a3_1 == 2) = true := beq_iff_eq.mpr c19; have c19b1 : (a3_1 != 2) = false := bne_eq_false_iff_eq.mpr c19; clear c19
        (first | rw [c19b0] | (simp only [i64_w, i32_w]; rw [c19b0]) | skip)
        have H' := aM H
        clear H
        go_wp2
        go_meet
        case rel => exact ⟨_, ((a3_1 == 2)), eT, H', ⟨by have := HJ4.out; first | omega | exact Nat.le_refl _⟩, ⟨kB BK109.out⟩, ⟨kB BK110.out⟩, ⟨bB2 HB.out GE109.out GE110.out⟩⟩
       ·rw [if_neg c19] at H
        have c19b0 : (a3_1 == 2) = false := beq_eq_false_iff_ne.mpr c19; have c19b1 : (a3_1 != 2) = true := bne_iff_ne.mpr c19
        (first | rw [c19b0] | (simp only [i64_w, i32_w]; rw [c19b0]) | skip)
        by_cases c20 : a3_1 = 3
        ·rw [if_pos c20] at H
         have c20b0 : (a3_1 == 3) = true := beq_iff_eq.mpr c20; have c20b1 : (a3_1 != 3) = false := bne_eq_false_iff_eq.mpr c20; clear c20
         have H' := aM H
         clear H
         go_wp2
         go_meet
         case rel => exact ⟨_, ((a3_1 == 3)), eT, H', ⟨by have := HJ4.out; first | omega | exact Nat.le_refl _⟩, ⟨kB BK109.out⟩, ⟨kB BK110.out⟩, ⟨bB2 HB.out GE109.out GE110.out⟩⟩
        ·rw [if_neg c20] at H
         have c20b0 : (a3_1 == 3) = false := beq_eq_false_iff_ne.mpr c20; have c20b1 : (a3_1 != 3) = true := bne_iff_ne.mpr c20
         have H' := aM H
         clear H
         go_wp2
         go_meet
         case rel => exact ⟨_, ((a3_1 == 4)), eT, H', ⟨by have := HJ4.out; first | omega | exact Nat.le_refl _⟩, ⟨kB BK109.out⟩, ⟨kB BK110.out⟩, ⟨bB2 HB.out GE109.out GE110.out⟩⟩
      case rest =>
       clear HC16
       try clear hx1
       try clear hx11
       try clear hx111_0
       try clear hx111_1
       obtain ⟨kq, x26_15, rfl, HA, HJ15, BK109, BK110, HB⟩ := hcut
       cases kq with
       | zero => exact absurd HA.out (by simp [binding_term.j1])
       | succ kj15 =>
        have H := HA.out; clear HA
        simp only [binding_term.j1] at H
        by_cases c21 : x26_15 = true
        ·subst c21
         have H1 : (if a3_2 < 0 then (binding_term.j2 kj15 a2 true a1_0 l1_1 l1_2 l1_3 l1_4 a3_0 a3_1 a3_2) else (binding_term.j2 kj15 a2 (decide (a3_2 ≥ (l1_1.length : Int))) a1_0 l1_1 l1_2 l1_3 l1_4 a3_0 a3_1 a3_2)) = some r := by rw [if_pos rfl] at H; exact H
         clear H; have H := H1; clear H1; have HC22 := aM H; clear H
         go_upto_region 10 with (fail)
         go_cut [44] (fun v44 wc => ∃ (kq : Nat) (x44_21 : Bool), v44 = .bool x44_21 ∧ Aside0 (binding_term.j2 kq a2 x44_21 a1_0 l1_1 l1_2 l1_3 l1_4 a3_0 a3_1 a3_2 = some r) ∧ Aside0 (kq ≤ kj15) ∧ Aside0 (wc.heap[gb109]? = some (.cells #[.string a1_0, (.slice A1_1 l1_1.length c1_1), (.slice A1_2 l1_2.length c1_2), (.slice A1_3 l1_3.length c1_3), (.slice A1_4 l1_4.length c1_4)] 27 (0, 0))) ∧ Aside0 (wc.heap[gb110]? = some (.cells #[.int .i64 a3_0, .int .i64 a3_1, .int .i64 a3_2] 54 (0, 0))) ∧ Aside0 (Below w.heap.size w wc))
         case first =>
          have H := HC22.out; clear HC22
          by_cases c23 : a3_2 < 0
          ·rw [if_pos c23] at H
           have c23b0 : decide (a3_2 < 0) = true := decide_eq_true c23; clear c23
           (first | rw [c23b0] | (simp only [i64_w, i32_w]; rw [c23b0]) | skip)
           have H' := aM H
           clear H; have hnb24 := NB110_109.out; have hnc24 := NB109_110.out
           have hcz25_0 : wc.cell? ⟨gb110, 0, none⟩ = some (.int .i64 a3_0) := (blk_cell BK110.out 0).trans rfl
           have hcz25_1 : wc.cell? ⟨gb110, 1, none⟩ = some (.int .i64 a3_1) := (blk_cell BK110.out 1).trans rfl
           have hcz25_2 : wc.cell? ⟨gb110, 2, none⟩ = some (.int .i64 a3_2) := (blk_cell BK110.out 2).trans rfl
           have hfz25_0 := blk_frozen BK110.out 0; have hfz25_1 := blk_frozen BK110.out 1; have hfz25_2 := blk_frozen BK110.out 2
           go_wp2
           go_meet
           case rel => exact ⟨_, (true), eT, H', ⟨by have := HJ4.out; have := HJ15.out; first | omega | exact Nat.le_refl _⟩, ⟨kB BK109.out⟩, ⟨kB BK110.out⟩, ⟨bB2 HB.out GE109.out GE110.out⟩⟩
          ·rw [if_neg c23] at H
           have c23b0 : decide (a3_2 < 0) = false := decide_eq_false c23; clear c23
           (first | rw [c23b0] | (simp only [i64_w, i32_w]; rw [c23b0]) | skip)
           have H' := aM H
           clear H; have hnb26 := NB110_109.out; have hnc26 := NB109_110.out
           have hcz27_0 : wc.cell? ⟨gb110, 0, none⟩ = some (.int .i64 a3_0) := (blk_cell BK110.out 0).trans rfl
           have hcz27_1 : wc.cell? ⟨gb110, 1, none⟩ = some (.int .i64 a3_1) := (blk_cell BK110.out 1).trans rfl
           have hcz27_2 : wc.cell? ⟨gb110, 2, none⟩ = some (.int .i64 a3_2) := (blk_cell BK110.out 2).trans rfl
           have hfz27_0 := blk_frozen BK110.out 0; have hfz27_1 := blk_frozen BK110.out 1; have hfz27_2 := blk_frozen BK110.out 2
           have hcz28_0 : wc.cell? ⟨gb109, 0, none⟩ = some (.string a1_0) := (blk_cell BK109.out 0).trans rfl
           have hcz28_1 : wc.cell? ⟨gb109, 1, none⟩ = some (.slice A1_1 l1_1.length c1_1) := (blk_cell BK109.out 1).trans rfl
           have hcz28_2 : wc.cell? ⟨gb109, 2, none⟩ = some (.slice A1_2 l1_2.length c1_2) := (blk_cell BK109.out 2).trans rfl
           have hcz28_3 : wc.cell? ⟨gb109, 3, none⟩ = some (.slice A1_3 l1_3.length c1_3) := (blk_cell BK109.out 3).trans rfl
           have hcz28_4 : wc.cell? ⟨gb109, 4, none⟩ = some (.slice A1_4 l1_4.length c1_4) := (blk_cell BK109.out 4).trans rfl
           have hfz28_0 := blk_frozen BK109.out 0; have hfz28_1 := blk_frozen BK109.out 1; have hfz28_2 := blk_frozen BK109.out 2; have hfz28_3 := blk_frozen BK109.out 3; have hfz28_4 := blk_frozen BK109.out 4
           go_wp2
           go_meet
           case rel => exact ⟨_, (decide (a3_2 ≥ (l1_1.length : Int))), eT, H', ⟨by have := HJ4.out; have := HJ15.out; first | omega | exact Nat.le_refl _⟩, ⟨kB BK109.out⟩, ⟨kB BK110.out⟩, ⟨bB2 HB.out GE109.out GE110.out⟩⟩
         case rest =>
          clear HC22
          try clear hx1
          try clear hx11
          try clear hx111_0
          try clear hx111_1
          obtain ⟨kq, x44_21, rfl, HA, HJ21, BK109, BK110, HB⟩ := hcut
          cases kq with
          | zero => exact absurd HA.out (by simp [binding_term.j2])
          | succ kj21 =>
           have H := HA.out; clear HA
           simp only [binding_term.j2] at H
           by_cases c29 : x44_21 = true
           ·subst c29
            have H1 : (some 1) = some r := by rw [if_pos rfl] at H; exact H
            clear H; have H := H1; clear H1
            obtain rfl := Option.some.inj H
            go_wp2
            go_ret
            exact ⟨rT, bB2 HB.out GE109.out GE110.out⟩
           ·replace c29 := Bool.eq_false_iff.mpr c29
            subst c29
            have H1 : (if 0 ≤ a3_2 then (if a3_2 < (l1_1.length : Int) then (if ((rd_T48 l1_1 a3_2).f1) = a2 then (some 0) else (some 17)) else (none)) else (none)) = some r := by rw [if_neg (show ¬ (false = true) by decide)] at H; exact H
            clear H; have H := H1; clear H1
            by_cases c30 : 0 ≤ a3_2
            ·rw [if_pos c30] at H
             have c30b0 : decide (0 ≤ a3_2) = true := decide_eq_true c30; clear c30
             by_cases c31 : a3_2 < (l1_1.length : Int)
             ·rw [if_pos c31] at H
              have c31b0 : decide (a3_2 < (l1_1.length : Int)) = true := decide_eq_true c31; clear c31
              by_cases c32 : ((rd_T48 l1_1 a3_2).f1) = a2
              ·rw [if_pos c32] at H
               have c32b0 : (((rd_T48 l1_1 a3_2).f1) == a2) = true := beq_iff_eq.mpr c32; have c32b1 : (((rd_T48 l1_1 a3_2).f1) != a2) = false := bne_eq_false_iff_eq.mpr c32; clear c32
               obtain rfl := Option.some.inj H
               have hnb33 := NB109_110.out; have hnc33 := NB110_109.out
               have hcz34_0 : wc.cell? ⟨gb109, 0, none⟩ = some (.string a1_0) := (blk_cell BK109.out 0).trans rfl
               have hcz34_1 : wc.cell? ⟨gb109, 1, none⟩ = some (.slice A1_1 l1_1.length c1_1) := (blk_cell BK109.out 1).trans rfl
               have hcz34_2 : wc.cell? ⟨gb109, 2, none⟩ = some (.slice A1_2 l1_2.length c1_2) := (blk_cell BK109.out 2).trans rfl
               have hcz34_3 : wc.cell? ⟨gb109, 3, none⟩ = some (.slice A1_3 l1_3.length c1_3) := (blk_cell BK109.out 3).trans rfl
               have hcz34_4 : wc.cell? ⟨gb109, 4, none⟩ = some (.slice A1_4 l1_4.length c1_4) := (blk_cell BK109.out 4).trans rfl
               have hfz34_0 := blk_frozen BK109.out 0; have hfz34_1 := blk_frozen BK109.out 1; have hfz34_2 := blk_frozen BK109.out 2; have hfz34_3 := blk_frozen BK109.out 3; have hfz34_4 := blk_frozen BK109.out 4
               have hcz35_0 : wc.cell? ⟨gb110, 0, none⟩ = some (.int .i64 a3_0) := (blk_cell BK110.out 0).trans rfl
               have hcz35_1 : wc.cell? ⟨gb110, 1, none⟩ = some (.int .i64 a3_1) := (blk_cell BK110.out 1).trans rfl
               have hcz35_2 : wc.cell? ⟨gb110, 2, none⟩ = some (.int .i64 a3_2) := (blk_cell BK110.out 2).trans rfl
               have hfz35_0 := blk_frozen BK110.out 0; have hfz35_1 := blk_frozen BK110.out 1; have hfz35_2 := blk_frozen BK110.out 2; have p112 : 0 ≤ (a3_2 : Int) := dT; have q112 : a3_2 < (l1_1.length : Int) := dT; obtain ⟨ad112, e112, hx112_0, hx112_1⟩ := at_T48 HR1_1.out a3_2 p112 q112; cases e112
               try replace hx112_0 := (HB.out.cell (World.block_lt_of_cell? w _ hx112_0)).trans hx112_0
               try replace hx112_1 := (HB.out.cell (World.block_lt_of_cell? w _ hx112_1)).trans hx112_1
               replace p112 := eq_true p112; replace q112 := eq_true q112
               go_wp2
               go_ret
               exact ⟨rT, bB2 HB.out GE109.out GE110.out⟩
              ·rw [if_neg c32] at H
               have c32b0 : (((rd_T48 l1_1 a3_2).f1) == a2) = false := beq_eq_false_iff_ne.mpr c32; have c32b1 : (((rd_T48 l1_1 a3_2).f1) != a2) = true := bne_iff_ne.mpr c32
               obtain rfl := Option.some.inj H
               have hnb36 := NB109_110.out; have hnc36 := NB110_109.out
               have hcz37_0 : wc.cell? ⟨gb109, 0, none⟩ = some (.string a1_0) := (blk_cell BK109.out 0).trans rfl
               have hcz37_1 : wc.cell? ⟨gb109, 1, none⟩ = some (.slice A1_1 l1_1.length c1_1) := (blk_cell BK109.out 1).trans rfl
               have hcz37_2 : wc.cell? ⟨gb109, 2, none⟩ = some (.slice A1_2 l1_2.length c1_2) := (blk_cell BK109.out 2).trans rfl
               have hcz37_3 : wc.cell? ⟨gb109, 3, none⟩ = some (.slice A1_3 l1_3.length c1_3) := (blk_cell BK109.out 3).trans rfl
               have hcz37_4 : wc.cell? ⟨gb109, 4, none⟩ = some (.slice A1_4 l1_4.length c1_4) := (blk_cell BK109.out 4).trans rfl
               have hfz37_0 := blk_frozen BK109.out 0; have hfz37_1 := blk_frozen BK109.out 1; have hfz37_2 := blk_frozen BK109.out 2; have hfz37_3 := blk_frozen BK109.out 3; have hfz37_4 := blk_frozen BK109.out 4
               have hcz38_0 : wc.cell? ⟨gb110, 0, none⟩ = some (.int .i64 a3_0) := (blk_cell BK110.out 0).trans rfl
               have hcz38_1 : wc.cell? ⟨gb110, 1, none⟩ = some (.int .i64 a3_1) := (blk_cell BK110.out 1).trans rfl
               have hcz38_2 : wc.cell? ⟨gb110, 2, none⟩ = some (.int .i64 a3_2) := (blk_cell BK110.out 2).trans rfl
               have hfz38_0 := blk_frozen BK110.out 0; have hfz38_1 := blk_frozen BK110.out 1; have hfz38_2 := blk_frozen BK110.out 2; have p112 : 0 ≤ (a3_2 : Int) := dT; have q112 : a3_2 < (l1_1.length : Int) := dT; obtain ⟨ad112, e112, hx112_0, hx112_1⟩ := at_T48 HR1_1.out a3_2 p112 q112; cases e112
               try replace hx112_0 := (HB.out.cell (World.block_lt_of_cell? w _ hx112_0)).trans hx112_0
               try replace hx112_1 := (HB.out.cell (World.block_lt_of_cell? w _ hx112_1)).trans hx112_1
               replace p112 := eq_true p112; replace q112 := eq_true q112
               go_wp2
               go_ret
               exact ⟨rT, bB2 HB.out GE109.out GE110.out⟩
             ·rw [if_neg c31] at H
              exact absurd H (by simp)
            ·rw [if_neg c30] at H
             exact absurd H (by simp)
        ·replace c21 := Bool.eq_false_iff.mpr c21
         subst c21
         have H1 : (if a3_1 = 5 then (if a3_2 < 0 then (some 1) else (if a3_2 ≥ 1 then (some 1) else (some 0))) else (if a3_1 = 1 then (if a3_2 < 0 then (some 1) else (if a3_2 ≥ (((rd_T51 l0 a2).f1).length : Int) then (some 1) else (some 0))) else (some 12))) = some r := by rw [if_neg (show ¬ (false = true) by decide)] at H; exact H
         clear H; have H := H1; clear H1
         by_cases c39 : a3_1 = 5
         ·rw [if_pos c39] at H
          have c39b0 : (a3_1 == 5) = true := beq_iff_eq.mpr c39; have c39b1 : (a3_1 != 5) = false := bne_eq_false_iff_eq.mpr c39; clear c39
          by_cases c40 : a3_2 < 0
          ·rw [if_pos c40] at H
           have c40b0 : decide (a3_2 < 0) = true := decide_eq_true c40; clear c40
           obtain rfl := Option.some.inj H
           have hnb41 := NB110_109.out; have hnc41 := NB109_110.out
           have hcz42_0 : wc.cell? ⟨gb110, 0, none⟩ = some (.int .i64 a3_0) := (blk_cell BK110.out 0).trans rfl
           have hcz42_1 : wc.cell? ⟨gb110, 1, none⟩ = some (.int .i64 a3_1) := (blk_cell BK110.out 1).trans rfl
           have hcz42_2 : wc.cell? ⟨gb110, 2, none⟩ = some (.int .i64 a3_2) := (blk_cell BK110.out 2).trans rfl
           have hfz42_0 := blk_frozen BK110.out 0; have hfz42_1 := blk_frozen BK110.out 1; have hfz42_2 := blk_frozen BK110.out 2
           go_wp2
           go_ret
           exact ⟨rT, bB2 HB.out GE109.out GE110.out⟩
          ·rw [if_neg c40] at H
           have c40b0 : decide (a3_2 < 0) = false := decide_eq_false c40; clear c40
           by_cases c43 : a3_2 ≥ 1
           ·rw [if_pos c43] at H
            have c43b0 : decide (1 ≤ a3_2) = true := decide_eq_true c43; clear c43
            obtain rfl := Option.some.inj H
            have hnb44 := NB110_109.out; have hnc44 := NB109_110.out
            have hcz45_0 : wc.cell? ⟨gb110, 0, none⟩ = some (.int .i64 a3_0) := (blk_cell BK110.out 0).trans rfl
            have hcz45_1 : wc.cell? ⟨gb110, 1, none⟩ = some (.int .i64 a3_1) := (blk_cell BK110.out 1).trans rfl
            have hcz45_2 : wc.cell? ⟨gb110, 2, none⟩ = some (.int .i64 a3_2) := (blk_cell BK110.out 2).trans rfl
            have hfz45_0 := blk_frozen BK110.out 0; have hfz45_1 := blk_frozen BK110.out 1; have hfz45_2 := blk_frozen BK110.out 2
            go_wp2
            go_ret
            exact ⟨rT, bB2 HB.out GE109.out GE110.out⟩
           ·rw [if_neg c43] at H
            have c43b0 : decide (1 ≤ a3_2) = false := decide_eq_false c43; clear c43
            obtain rfl := Option.some.inj H
            have hnb46 := NB110_109.out; have hnc46 := NB109_110.out
            have hcz47_0 : wc.cell? ⟨gb110, 0, none⟩ = some (.int .i64 a3_0) := (blk_cell BK110.out 0).trans rfl
            have hcz47_1 : wc.cell? ⟨gb110, 1, none⟩ = some (.int .i64 a3_1) := (blk_cell BK110.out 1).trans rfl
            have hcz47_2 : wc.cell? ⟨gb110, 2, none⟩ = some (.int .i64 a3_2) := (blk_cell BK110.out 2).trans rfl
            have hfz47_0 := blk_frozen BK110.out 0; have hfz47_1 := blk_frozen BK110.out 1; have hfz47_2 := blk_frozen BK110.out 2
            go_wp2
            go_ret
            exact ⟨rT, bB2 HB.out GE109.out GE110.out⟩
         ·rw [if_neg c39] at H
          have c39b0 : (a3_1 == 5) = false := beq_eq_false_iff_ne.mpr c39; have c39b1 : (a3_1 != 5) = true := bne_iff_ne.mpr c39
          by_cases c48 : a3_1 = 1
          ·rw [if_pos c48] at H
           have c48b0 : (a3_1 == 1) = true := beq_iff_eq.mpr c48; have c48b1 : (a3_1 != 1) = false := bne_eq_false_iff_eq.mpr c48; clear c48
           by_cases c49 : a3_2 < 0
           ·rw [if_pos c49] at H
            have c49b0 : decide (a3_2 < 0) = true := decide_eq_true c49; clear c49
            obtain rfl := Option.some.inj H
            have hnb50 := NB110_109.out; have hnc50 := NB109_110.out
            have hcz51_0 : wc.cell? ⟨gb110, 0, none⟩ = some (.int .i64 a3_0) := (blk_cell BK110.out 0).trans rfl
            have hcz51_1 : wc.cell? ⟨gb110, 1, none⟩ = some (.int .i64 a3_1) := (blk_cell BK110.out 1).trans rfl
            have hcz51_2 : wc.cell? ⟨gb110, 2, none⟩ = some (.int .i64 a3_2) := (blk_cell BK110.out 2).trans rfl
            have hfz51_0 := blk_frozen BK110.out 0; have hfz51_1 := blk_frozen BK110.out 1; have hfz51_2 := blk_frozen BK110.out 2
            go_wp2
            go_ret
            exact ⟨rT, bB2 HB.out GE109.out GE110.out⟩
           ·rw [if_neg c49] at H
            have c49b0 : decide (a3_2 < 0) = false := decide_eq_false c49; clear c49
            by_cases c52 : a3_2 ≥ (((rd_T51 l0 a2).f1).length : Int)
            ·rw [if_pos c52] at H
             have c52b0 : decide ((((rd_T51 l0 a2).f1).length : Int) ≤ a3_2) = true := decide_eq_true c52; clear c52
             obtain rfl := Option.some.inj H
             have hnb53 := NB110_109.out; have hnc53 := NB109_110.out
             have hcz54_0 : wc.cell? ⟨gb110, 0, none⟩ = some (.int .i64 a3_0) := (blk_cell BK110.out 0).trans rfl
             have hcz54_1 : wc.cell? ⟨gb110, 1, none⟩ = some (.int .i64 a3_1) := (blk_cell BK110.out 1).trans rfl
             have hcz54_2 : wc.cell? ⟨gb110, 2, none⟩ = some (.int .i64 a3_2) := (blk_cell BK110.out 2).trans rfl
             have hfz54_0 := blk_frozen BK110.out 0; have hfz54_1 := blk_frozen BK110.out 1; have hfz54_2 := blk_frozen BK110.out 2
             go_wp2
             go_ret
             exact ⟨rT, bB2 HB.out GE109.out GE110.out⟩
            ·rw [if_neg c52] at H
             have c52b0 : decide ((((rd_T51 l0 a2).f1).length : Int) ≤ a3_2) = false := decide_eq_false c52; clear c52
             obtain rfl := Option.some.inj H
             have hnb55 := NB110_109.out; have hnc55 := NB109_110.out
             have hcz56_0 : wc.cell? ⟨gb110, 0, none⟩ = some (.int .i64 a3_0) := (blk_cell BK110.out 0).trans rfl
             have hcz56_1 : wc.cell? ⟨gb110, 1, none⟩ = some (.int .i64 a3_1) := (blk_cell BK110.out 1).trans rfl
             have hcz56_2 : wc.cell? ⟨gb110, 2, none⟩ = some (.int .i64 a3_2) := (blk_cell BK110.out 2).trans rfl
             have hfz56_0 := blk_frozen BK110.out 0; have hfz56_1 := blk_frozen BK110.out 1; have hfz56_2 := blk_frozen BK110.out 2
             go_wp2
             go_ret
             exact ⟨rT, bB2 HB.out GE109.out GE110.out⟩
          ·rw [if_neg c48] at H
           have c48b0 : (a3_1 == 1) = false := beq_eq_false_iff_ne.mpr c48; have c48b1 : (a3_1 != 1) = true := bne_iff_ne.mpr c48
           obtain rfl := Option.some.inj H
           go_wp2
           go_ret
           exact ⟨rT, bB2 HB.out GE109.out GE110.out⟩
     ·rw [if_neg c15] at H
      exact absurd H (by simp)
    ·rw [if_neg c14] at H
     exact absurd H (by simp)


/-! ### binding_CheckTerms: function 13 -/
mutual
def binding_CheckTerms.j0 : Nat → List (S51) → Int → List (S54) → Bool → ByteArray → List (S48) → List (S62) → List (S111) → List (S111) → Option (Int)
 | 0, _, _, _, _, _, _, _, _, _ => none
 | k + 1, x0, x2, x3, x26, x114000, x114001, x114002, x114003, x114004 => if x26 = true then (some 1) else (binding_CheckTerms.l0 k x0 x2 x3 (x3.length : Int) 0 x114000 x114001 x114002 x114003 x114004)
def binding_CheckTerms.l0 : Nat → List (S51) → Int → List (S54) → Int → Int → ByteArray → List (S48) → List (S62) → List (S111) → List (S111) → Option (Int)
 | 0, _, _, _, _, _, _, _, _, _, _ => none
 | k + 1, x0, x2, x27, x28, x29, x114000, x114001, x114002, x114003, x114004 => if x29 < x28 then (if 0 ≤ x29 then (if x29 < (x27.length : Int) then ((binding_term.f k x0 x114000 x114001 x114002 x114003 x114004 x2 ((rd_T54 x27 x29).f0) ((rd_T54 x27 x29).f1) ((rd_T54 x27 x29).f2)).bind fun t117 => (if t117 = 0 then (binding_CheckTerms.l0 k x0 x2 x27 x28 (wrap64 (x29 + 1)) x114000 x114001 x114002 x114003 x114004) else (some t117))) else (none)) else (none)) else (some 0)
end
def binding_CheckTerms.f (k : Nat) (l0 : List (S51)) (a1_0 : ByteArray) (l1_1 : List (S48)) (l1_2 : List (S62)) (l1_3 : List (S111)) (l1_4 : List (S111)) (a2 : Int) (l3 : List (S54)) : Option (Int) := (binding_Check.f l0 a1_0 l1_1 l1_2 l1_3 l1_4).bind fun t114 => (if t114 = 0 then (if a2 < 0 then (binding_CheckTerms.j0 k l0 a2 l3 true a1_0 l1_1 l1_2 l1_3 l1_4) else (binding_CheckTerms.j0 k l0 a2 l3 (decide (a2 ≥ (l0.length : Int))) a1_0 l1_1 l1_2 l1_3 l1_4)) else (some t114))
theorem binding_CheckTerms.mono_l : ∀ k, (∀ y0 y1 y2 y3 y4 y5 y6 y7 y8, LeO (binding_CheckTerms.j0 k y0 y1 y2 y3 y4 y5 y6 y7 y8) (binding_CheckTerms.j0 (k + 1) y0 y1 y2 y3 y4 y5 y6 y7 y8)) ∧ (∀ y0 y1 y2 y3 y4 y5 y6 y7 y8 y9, LeO (binding_CheckTerms.l0 k y0 y1 y2 y3 y4 y5 y6 y7 y8 y9) (binding_CheckTerms.l0 (k + 1) y0 y1 y2 y3 y4 y5 y6 y7 y8 y9))
 | 0 => ⟨fun _ _ _ _ _ _ _ _ _ r h => by simp [binding_CheckTerms.j0] at h, fun _ _ _ _ _ _ _ _ _ _ r h => by simp [binding_CheckTerms.l0] at h⟩
 | k + 1 => by
  obtain ⟨ih0, ih1⟩ := binding_CheckTerms.mono_l k
  refine ⟨?_, ?_⟩
  ·intro y0 y1 y2 y3 y4 y5 y6 y7 y8
   unfold binding_CheckTerms.j0
   repeat' first
   | (with_reducible first | exact ih0 _ _ _ _ _ _ _ _ _ | exact ih1 _ _ _ _ _ _ _ _ _ _ | exact binding_term.mono _ _ _ _ _ _ _ _ _ _ _ | exact LeO.refl _ | exact LeO.none _ | refine LeO.ite ?_ ?_ | refine LeO.bind ?_ (fun _ => ?_))
   | exact LeO.none _
   | refine LeO.ite ?_ ?_
   | refine LeO.bind ?_ (fun _ => ?_)
  ·intro y0 y1 y2 y3 y4 y5 y6 y7 y8 y9
   unfold binding_CheckTerms.l0
   repeat' first
   | (with_reducible first | exact ih0 _ _ _ _ _ _ _ _ _ | exact ih1 _ _ _ _ _ _ _ _ _ _ | exact binding_term.mono _ _ _ _ _ _ _ _ _ _ _ | exact LeO.refl _ | exact LeO.none _ | refine LeO.ite ?_ ?_ | refine LeO.bind ?_ (fun _ => ?_))
   | exact LeO.none _
   | refine LeO.ite ?_ ?_
   | refine LeO.bind ?_ (fun _ => ?_)
theorem binding_CheckTerms.mono : ∀ a0 a1 a2 a3 a4 a5 a6 a7 k, LeO (binding_CheckTerms.f k a0 a1 a2 a3 a4 a5 a6 a7) (binding_CheckTerms.f (k + 1) a0 a1 a2 a3 a4 a5 a6 a7) := by
 intro a0 a1 a2 a3 a4 a5 a6 a7 k
 obtain ⟨ih0, ih1⟩ := binding_CheckTerms.mono_l k
 unfold binding_CheckTerms.f
 repeat' first
   | (with_reducible first | exact ih0 _ _ _ _ _ _ _ _ _ | exact ih1 _ _ _ _ _ _ _ _ _ _ | exact binding_term.mono _ _ _ _ _ _ _ _ _ _ _ | exact LeO.refl _ | exact LeO.none _ | refine LeO.ite ?_ ?_ | refine LeO.bind ?_ (fun _ => ?_))
   | exact LeO.none _
   | refine LeO.ite ?_ ?_
   | refine LeO.bind ?_ (fun _ => ?_)
set_option maxHeartbeats 8000000 in
set_option maxRecDepth 100000 in
theorem binding_CheckTerms.calls (k : Nat) (A0 : Option Addr) (c0 : Nat) (l0 : List (S51)) (a1_0 : ByteArray) (A1_1 : Option Addr) (c1_1 : Nat) (l1_1 : List (S48)) (A1_2 : Option Addr) (c1_2 : Nat) (l1_2 : List (S62)) (A1_3 : Option Addr) (c1_3 : Nat) (l1_3 : List (S111)) (A1_4 : Option Addr) (c1_4 : Nat) (l1_4 : List (S111)) (a2 : Int) (A3 : Option Addr) (c3 : Nat) (l3 : List (S54)) (r : Int) (w : World) (hr0 : Kd.C k51 w A0 l0.length l0) (hc0 : l0.length ≤ c0) (hr1_1 : Kd.C k48 w A1_1 l1_1.length l1_1) (hc1_1 : l1_1.length ≤ c1_1) (hr1_2 : Kd.C k62 w A1_2 l1_2.length l1_2) (hc1_2 : l1_2.length ≤ c1_2) (hr1_3 : Kd.C k111 w A1_3 l1_3.length l1_3) (hc1_3 : l1_3.length ≤ c1_3) (hr1_4 : Kd.C k111 w A1_4 l1_4.length l1_4) (hc1_4 : l1_4.length ≤ c1_4) (hr3 : Kd.C k54 w A3 l3.length l3) (hc3 : l3.length ≤ c3) (h : binding_CheckTerms.f k l0 a1_0 l1_1 l1_2 l1_3 l1_4 a2 l3 = some r) :
  Calls Try.prog 13 #[.slice A0 l0.length c0, .agg #[.string a1_0, .slice A1_1 l1_1.length c1_1, .slice A1_2 l1_2.length c1_2, .slice A1_3 l1_3.length c1_3, .slice A1_4 l1_4.length c1_4], .int .i64 a2, .slice A3 l3.length c3] w fun e w' => e = .returned (.int .i64 r) ∧ Below w.heap.size w w' := by
 have hu27 := Try.underlying27; have hu9 := Try.underlying9; have hu23 := Try.underlying23; have hu24 := Try.underlying24; have hu25 := Try.underlying25; have hu54 := Try.underlying54; have hu3 := Try.underlying3; have HR0 := aM hr0; have HC0 := aM hc0; clear hr0 hc0; have HR1_1 := aM hr1_1; have HC1_1 := aM hc1_1; clear hr1_1 hc1_1; have HR1_2 := aM hr1_2; have HC1_2 := aM hc1_2; clear hr1_2 hc1_2; have HR1_3 := aM hr1_3; have HC1_3 := aM hc1_3; clear hr1_3 hc1_3; have HR1_4 := aM hr1_4; have HC1_4 := aM hc1_4; clear hr1_4 hc1_4; have HR3 := aM hr3; have HC3 := aM hc3; clear hr3 hc3; have HB := aM (Below.refl w.heap.size w)
 have H : ((binding_Check.f l0 a1_0 l1_1 l1_2 l1_3 l1_4).bind fun t114 => (if t114 = 0 then (if a2 < 0 then (binding_CheckTerms.j0 k l0 a2 l3 true a1_0 l1_1 l1_2 l1_3 l1_4) else (binding_CheckTerms.j0 k l0 a2 l3 (decide (a2 ≥ (l0.length : Int))) a1_0 l1_1 l1_2 l1_3 l1_4)) else (some t114))) = some r := h
 clear h; replace H := Option.bind_eq_some_iff.mp H; obtain ⟨t114, A50, H⟩ := H
 replace H : (if t114 = 0 then (if a2 < 0 then (binding_CheckTerms.j0 k l0 a2 l3 true a1_0 l1_1 l1_2 l1_3 l1_4) else (binding_CheckTerms.j0 k l0 a2 l3 (decide (a2 ≥ (l0.length : Int))) a1_0 l1_1 l1_2 l1_3 l1_4)) else (some t114)) = some r := H
 have A5 := aM A50; clear A50
 by_cases c6 : t114 = 0
 ·rw [if_pos c6] at H
  have c6b0 : (t114 == 0) = true := beq_iff_eq.mpr c6; have c6b1 : (t114 != 0) = false := bne_eq_false_iff_eq.mpr c6; clear c6; have HC7 := aM H; clear H
  go_enter Try.func13, Try.ntmps13
  go_upto_region 4 with (first | ((with_reducible refine gate_dst (N := 5) rfl ?_); (try (refine gate_guard (by rfl) ?_; dsimp only)); refine box_event ?hg (N := 5) ?hd (cs := #[.string a1_0, .slice A1_1 l1_1.length c1_1, .slice A1_2 l1_2.length c1_2, .slice A1_3 l1_3.length c1_3, .slice A1_4 l1_4.length c1_4]) (t := 27) ?hr ?_; (case hd => rfl); (case hg => rfl); (case hr => first | (go_simp; done) | (go_simp; rfl)); intro gb113 hg w8 hbox hb; have n0_ := aM (below_step (bB HB.out) hb); have n1_ := aM (hbox); have n2_ := aM ((by rw [hg]; exact (below_size (bB HB.out)) : w.heap.size ≤ gb113)); have n3_ := aM ((by rw [hg]; exact (below_size (bB HB.out)) : w.heap.size ≤ gb113)); clear HB; have HB := n0_; have BK113 := n1_; have GW113 := n2_; have GE113 := n3_; clear n0_ n1_ n2_ n3_; clear hb hbox hg; have hcz9_0 : w8.cell? ⟨gb113, 0, none⟩ = some (.string a1_0) := (blk_cell BK113.out 0).trans rfl; have hcz9_1 : w8.cell? ⟨gb113, 1, none⟩ = some (.slice A1_1 l1_1.length c1_1) := (blk_cell BK113.out 1).trans rfl; have hcz9_2 : w8.cell? ⟨gb113, 2, none⟩ = some (.slice A1_2 l1_2.length c1_2) := (blk_cell BK113.out 2).trans rfl; have hcz9_3 : w8.cell? ⟨gb113, 3, none⟩ = some (.slice A1_3 l1_3.length c1_3) := (blk_cell BK113.out 3).trans rfl; have hcz9_4 : w8.cell? ⟨gb113, 4, none⟩ = some (.slice A1_4 l1_4.length c1_4) := (blk_cell BK113.out 4).trans rfl; have hfz9_0 := blk_frozen BK113.out 0; have hfz9_1 := blk_frozen BK113.out 1; have hfz9_2 := blk_frozen BK113.out 2; have hfz9_3 := blk_frozen BK113.out 3; have hfz9_4 := blk_frozen BK113.out 4) | ((with_reducible refine gate_callee (f := 11) rfl ?_); refine goesL_ (some 15) rfl rfl Try.func11 (by kernel_rfl) rfl #[.slice A0 l0.length c0, .agg #[.string a1_0, .slice A1_1 l1_1.length c1_1, .slice A1_2 l1_2.length c1_2, .slice A1_3 l1_3.length c1_3, .slice A1_4 l1_4.length c1_4]] rfl mT ?_; (with_reducible refine (binding_Check.calls _ _ l0 a1_0 _ _ l1_1 _ _ l1_2 _ _ l1_3 _ _ l1_4 t114 _ ?side1 ?side2 ?side3 ?side4 ?side5 ?side6 ?side7 ?side8 ?side9 ?side10 A5.out).mono ?_); (case side1 => exact cB HR0.out HB.out); (case side2 => exact HC0.out); (case side3 => exact cB HR1_1.out HB.out); (case side4 => exact HC1_1.out); (case side5 => exact cB HR1_2.out HB.out); (case side6 => exact HC1_2.out); (case side7 => exact cB HR1_3.out HB.out); (case side8 => exact HC1_3.out); (case side9 => exact cB HR1_4.out HB.out); (case side10 => exact HC1_4.out); rintro e w10 ⟨rfl, hb⟩; refine ⟨_, rfl, ?_⟩; have n0_ := aM (kW BK113.out hb); have n1_ := aM (below_step (bB1 HB.out GE113.out) hb); clear BK113; clear HB; have BK113 := n0_; have HB := n1_; clear n0_ n1_; (try clear hb); (try clear hb2); (try clear hk); (try clear hi)))
  (try simp only [Act.put, List.setIfInBounds_toArray, List.set_cons_zero, List.set_cons_succ])
  go_cut [26] (fun v26 wc => ∃ (kq : Nat) (x26_6 : Bool), v26 = .bool x26_6 ∧ Aside0 (binding_CheckTerms.j0 kq l0 a2 l3 x26_6 a1_0 l1_1 l1_2 l1_3 l1_4 = some r) ∧ Aside0 (kq ≤ k) ∧ Aside0 (wc.heap[gb113]? = some (.cells #[.string a1_0, (.slice A1_1 l1_1.length c1_1), (.slice A1_2 l1_2.length c1_2), (.slice A1_3 l1_3.length c1_3), (.slice A1_4 l1_4.length c1_4)] 27 (0, 0))) ∧ Aside0 (Below w.heap.size w wc))
  case first =>
   have H := HC7.out; clear HC7
   by_cases c11 : a2 < 0
   ·rw [if_pos c11] at H
    have c11b0 : decide (a2 < 0) = true := decide_eq_true c11; clear c11
    (first | rw [c11b0] | (simp only [i64_w, i32_w]; rw [c11b0]) | skip)
    have H' := aM H
    clear H
    go_wp2
    go_meet
    case rel => exact ⟨_, (true), eT, H', ⟨by first | omega | exact Nat.le_refl _⟩, ⟨kB BK113.out⟩, ⟨bB1 HB.out GE113.out⟩⟩
   ·rw [if_neg c11] at H
    have c11b0 : decide (a2 < 0) = false := decide_eq_false c11; clear c11
    (first | rw [c11b0] | (simp only [i64_w, i32_w]; rw [c11b0]) | skip)
    have H' := aM H
    clear H
    go_wp2
    go_meet
    case rel => exact ⟨_, (decide (a2 ≥ (l0.length : Int))), eT, H', ⟨by first | omega | exact Nat.le_refl _⟩, ⟨kB BK113.out⟩, ⟨bB1 HB.out GE113.out⟩⟩
  case rest =>
   clear HC7; obtain ⟨kq, x26_6, rfl, HA, HJ6, BK113, HB⟩ := hcut
   cases kq with
   | zero => exact absurd HA.out (by simp [binding_CheckTerms.j0])
   | succ kj6 =>
    have H := HA.out; clear HA
    simp only [binding_CheckTerms.j0] at H
    by_cases c12 : x26_6 = true
    ·subst c12
     have H1 : (some 1) = some r := by rw [if_pos rfl] at H; exact H
     clear H; have H := H1; clear H1
     obtain rfl := Option.some.inj H
     go_wp2
     go_ret
     exact ⟨rT, bB1 HB.out GE113.out⟩
    ·replace c12 := Bool.eq_false_iff.mpr c12
     subst c12
     have H1 : (binding_CheckTerms.l0 kj6 l0 a2 l3 (l3.length : Int) 0 a1_0 l1_1 l1_2 l1_3 l1_4) = some r := by rw [if_neg (show ¬ (false = true) by decide)] at H; exact H
     clear H; have H := H1; clear H1
     have H' := aM H
     clear H
     go_wp2
     go_loopg [29] kj6 (fun kq v29 w' => ∃ (x29_2 : Int), v29 = .int .i64 x29_2 ∧ Aside0 (binding_CheckTerms.l0 kq l0 a2 l3 (l3.length : Int) x29_2 a1_0 l1_1 l1_2 l1_3 l1_4 = some r) ∧ Aside0 (kq ≤ kj6) ∧ Aside0 (w'.heap[gb113]? = some (.cells #[.string a1_0, (.slice A1_1 l1_1.length c1_1), (.slice A1_2 l1_2.length c1_2), (.slice A1_3 l1_3.length c1_3), (.slice A1_4 l1_4.length c1_4)] 27 (0, 0))) ∧ Aside0 (Below w.heap.size w w'))
     case atStart => exact ⟨(0), eT, H', ⟨Nat.le_refl _⟩, ⟨kB BK113.out⟩, ⟨bB1 HB.out GE113.out⟩⟩
     case round =>
      clear H'; obtain ⟨x29_2, rfl, HA, HK2, BK113, HB⟩ := hrel
      cases gk with
      | zero => exact absurd HA.out (by simp [binding_CheckTerms.l0])
      | succ k2 =>
       have H := HA.out; clear HA
       simp only [binding_CheckTerms.l0] at H
       by_cases c13 : x29_2 < (l3.length : Int)
       ·rw [if_pos c13] at H
        have c13b0 : decide (x29_2 < (l3.length : Int)) = true := decide_eq_true c13; clear c13
        by_cases c14 : 0 ≤ x29_2
        ·rw [if_pos c14] at H
         have c14b0 : decide (0 ≤ x29_2) = true := decide_eq_true c14; clear c14
         by_cases c15 : x29_2 < (l3.length : Int)
         ·rw [if_pos c15] at H
          have c15b0 : decide (x29_2 < (l3.length : Int)) = true := decide_eq_true c15; clear c15; replace H := Option.bind_eq_some_iff.mp H; obtain ⟨t117, A160, H⟩ := H
          replace H : (if t117 = 0 then (binding_CheckTerms.l0 k2 l0 a2 l3 (l3.length : Int) (wrap64 (x29_2 + 1)) a1_0 l1_1 l1_2 l1_3 l1_4) else (some t117)) = some r := H
          have A16 := aM A160; clear A160
          by_cases c17 : t117 = 0
          ·rw [if_pos c17] at H
           have c17b0 : (t117 == 0) = true := beq_iff_eq.mpr c17; have c17b1 : (t117 != 0) = false := bne_eq_false_iff_eq.mpr c17; clear c17
           have H' := aM H
           clear H; have p115 : 0 ≤ (x29_2 : Int) := dT; have q115 : x29_2 < (l3.length : Int) := dT; obtain ⟨ad115, e115, hx115_0, hx115_1, hx115_2⟩ := at_T54 HR3.out x29_2 p115 q115; cases e115
           try replace hx115_0 := (HB.out.cell (World.block_lt_of_cell? w _ hx115_0)).trans hx115_0
           try replace hx115_1 := (HB.out.cell (World.block_lt_of_cell? w _ hx115_1)).trans hx115_1
           try replace hx115_2 := (HB.out.cell (World.block_lt_of_cell? w _ hx115_2)).trans hx115_2
           replace p115 := eq_true p115; replace q115 := eq_true q115
           go_wp2_with (first | ((with_reducible refine gate_dst (N := 11) rfl ?_); (try (refine gate_guard (by rfl) ?_; dsimp only)); refine box_event ?hg (N := 11) ?hd (cs := #[.int .i64 0, .int .i64 0, .int .i64 0]) (t := 54) ?hr ?_; (case hd => rfl); (case hg => rfl); (case hr => first | (go_simp; done) | (go_simp; rfl)); intro gb116 hg w18 hbox hb; have n0_ := aM (kW BK113.out hb); have n1_ := aM (below_step (bB1 HB.out GE113.out) hb); have n2_ := aM (hbox); have n3_ := aM ((by rw [hg]; exact (below_size (bB1 HB.out GE113.out)) : w.heap.size ≤ gb116)); have n4_ := aM ((by rw [hg]; exact (below_size (bB1 HB.out GE113.out)) : w.heap.size ≤ gb116)); have n5_ := aM ((by rw [hg]; exact Nat.ne_of_lt (kL BK113.out) : gb113 ≠ gb116)); have n6_ := aM ((by rw [hg]; exact Nat.ne_of_gt (kL BK113.out) : gb116 ≠ gb113)); clear BK113; clear HB; have BK113 := n0_; have HB := n1_; have BK116 := n2_; have GW116 := n3_; have GE116 := n4_; have NB113_116 := n5_; have NB116_113 := n6_; clear n0_ n1_ n2_ n3_ n4_ n5_ n6_; clear hb hbox hg; have hnb19 := NB116_113.out; have hnc19 := NB113_116.out; have hcz20_0 : w18.cell? ⟨gb116, 0, none⟩ = some (.int .i64 0) := (blk_cell BK116.out 0).trans rfl; have hcz20_1 : w18.cell? ⟨gb116, 1, none⟩ = some (.int .i64 0) := (blk_cell BK116.out 1).trans rfl; have hcz20_2 : w18.cell? ⟨gb116, 2, none⟩ = some (.int .i64 0) := (blk_cell BK116.out 2).trans rfl; have hfz20_0 := blk_frozen BK116.out 0; have hfz20_1 := blk_frozen BK116.out 1; have hfz20_2 := blk_frozen BK116.out 2; have hcz21_0 : w18.cell? ⟨gb113, 0, none⟩ = some (.string a1_0) := (blk_cell BK113.out 0).trans rfl; have hcz21_1 : w18.cell? ⟨gb113, 1, none⟩ = some (.slice A1_1 l1_1.length c1_1) := (blk_cell BK113.out 1).trans rfl; have hcz21_2 : w18.cell? ⟨gb113, 2, none⟩ = some (.slice A1_2 l1_2.length c1_2) := (blk_cell BK113.out 2).trans rfl; have hcz21_3 : w18.cell? ⟨gb113, 3, none⟩ = some (.slice A1_3 l1_3.length c1_3) := (blk_cell BK113.out 3).trans rfl; have hcz21_4 : w18.cell? ⟨gb113, 4, none⟩ = some (.slice A1_4 l1_4.length c1_4) := (blk_cell BK113.out 4).trans rfl; have hfz21_0 := blk_frozen BK113.out 0; have hfz21_1 := blk_frozen BK113.out 1; have hfz21_2 := blk_frozen BK113.out 2; have hfz21_3 := blk_frozen BK113.out 3; have hfz21_4 := blk_frozen BK113.out 4) | ((with_reducible refine gate_callee (f := 35) rfl ?_); refine goesL_ (some 37) rfl rfl Try.func35 (by kernel_rfl) rfl #[.slice A0 l0.length c0, .agg #[.string a1_0, .slice A1_1 l1_1.length c1_1, .slice A1_2 l1_2.length c1_2, .slice A1_3 l1_3.length c1_3, .slice A1_4 l1_4.length c1_4], .int .i64 a2, .agg #[.int .i64 ((rd_T54 l3 x29_2).f0), .int .i64 ((rd_T54 l3 x29_2).f1), .int .i64 ((rd_T54 l3 x29_2).f2)]] rfl mT ?_; (with_reducible refine (binding_term.calls k2 _ _ l0 a1_0 _ _ l1_1 _ _ l1_2 _ _ l1_3 _ _ l1_4 a2 ((rd_T54 l3 x29_2).f0) ((rd_T54 l3 x29_2).f1) ((rd_T54 l3 x29_2).f2) t117 _ ?side1 ?side2 ?side3 ?side4 ?side5 ?side6 ?side7 ?side8 ?side9 ?side10 A16.out).mono ?_); (case side1 => exact Kd.C_below HR0.out (bB2 HB.out GE113.out GE116.out)); (case side2 => exact HC0.out); (case side3 => exact Kd.C_below HR1_1.out (bB2 HB.out GE113.out GE116.out)); (case side4 => exact HC1_1.out); (case side5 => exact Kd.C_below HR1_2.out (bB2 HB.out GE113.out GE116.out)); (case side6 => exact HC1_2.out); (case side7 => exact Kd.C_below HR1_3.out (bB2 HB.out GE113.out GE116.out)); (case side8 => exact HC1_3.out); (case side9 => exact Kd.C_below HR1_4.out (bB2 HB.out GE113.out GE116.out)); (case side10 => exact HC1_4.out); rintro e w22 ⟨rfl, hb⟩; refine ⟨_, rfl, ?_⟩; have n0_ := aM (blk_below (g := gb113) (o := .cells #[.string a1_0, .slice A1_1 l1_1.length c1_1, .slice A1_2 l1_2.length c1_2, .slice A1_3 l1_3.length c1_3, .slice A1_4 l1_4.length c1_4] 27 (0, 0)) (by refine kR ?_; refine blk_far ?_ NB113_116.out _; refine kR ?_; refine blk_far ?_ NB113_116.out _; refine kR ?_; refine blk_far ?_ NB113_116.out _; refine kR ?_; exact BK113.out) hb); have n1_ := aM (blk_below (g := gb116) (o := .cells #[.int .i64 ((rd_T54 l3 x29_2).f0), .int .i64 ((rd_T54 l3 x29_2).f1), .int .i64 ((rd_T54 l3 x29_2).f2)] 54 (0, 0)) (by refine kR ?_; refine blk_put (cs := #[.int .i64 ((rd_T54 l3 x29_2).f0), .int .i64 ((rd_T54 l3 x29_2).f1), .int .i64 0]) ?_ 2 _ rfl; refine kR ?_; refine blk_put (cs := #[.int .i64 ((rd_T54 l3 x29_2).f0), .int .i64 0, .int .i64 0]) ?_ 1 _ rfl; refine kR ?_; refine blk_put (cs := #[.int .i64 0, .int .i64 0, .int .i64 0]) ?_ 0 _ rfl; refine kR ?_; exact BK116.out) hb); have n2_ := aM (below_step (bB2 HB.out GE113.out GE116.out) hb); clear BK113; clear BK116; clear HB; have BK113 := n0_; have BK116 := n1_; have HB := n2_; clear n0_ n1_ n2_; (try clear hb); (try clear hb2); (try clear hk); (try clear hi)))
           go_roundg k2
           case measure => have := HJ6.out; have := HK2.out; omega
           case rel => exact ⟨(wrap64 (x29_2 + 1)), eT, H', ⟨by have := HJ6.out; have := HK2.out; omega⟩, ⟨kB BK113.out⟩, ⟨bB2 HB.out GE113.out GE116.out⟩⟩
          ·rw [if_neg c17] at H
           have c17b0 : (t117 == 0) = false := beq_eq_false_iff_ne.mpr c17; have c17b1 : (t117 != 0) = true := bne_iff_ne.mpr c17
           obtain rfl := Option.some.inj H
           have p115 : 0 ≤ (x29_2 : Int) := dT; have q115 : x29_2 < (l3.length : Int) := dT; obtain ⟨ad115, e115, hx115_0, hx115_1, hx115_2⟩ := at_T54 HR3.out x29_2 p115 q115; cases e115
           try replace hx115_0 := (HB.out.cell (World.block_lt_of_cell? w _ hx115_0)).trans hx115_0
           try replace hx115_1 := (HB.out.cell (World.block_lt_of_cell? w _ hx115_1)).trans hx115_1
           try replace hx115_2 := (HB.out.cell (World.block_lt_of_cell? w _ hx115_2)).trans hx115_2
           replace p115 := eq_true p115; replace q115 := eq_true q115
           go_wp2_with (first | ((with_reducible refine gate_dst (N := 11) rfl ?_); (try (refine gate_guard (by rfl) ?_; dsimp only)); refine box_event ?hg (N := 11) ?hd (cs := #[.int .i64 0, .int .i64 0, .int .i64 0]) (t := 54) ?hr ?_; (case hd => rfl); (case hg => rfl); (case hr => first | (go_simp; done) | (go_simp; rfl)); intro gb116 hg w23 hbox hb; have n0_ := aM (kW BK113.out hb); have n1_ := aM (below_step (bB1 HB.out GE113.out) hb); have n2_ := aM (hbox); have n3_ := aM ((by rw [hg]; exact (below_size (bB1 HB.out GE113.out)) : w.heap.size ≤ gb116)); have n4_ := aM ((by rw [hg]; exact (below_size (bB1 HB.out GE113.out)) : w.heap.size ≤ gb116)); have n5_ := aM ((by rw [hg]; exact Nat.ne_of_lt (kL BK113.out) : gb113 ≠ gb116)); have n6_ := aM ((by rw [hg]; exact Nat.ne_of_gt (kL BK113.out) : gb116 ≠ gb113)); clear BK113; clear HB; have BK113 := n0_; have HB := n1_; have BK116 := n2_; have GW116 := n3_; have GE116 := n4_; have NB113_116 := n5_; have NB116_113 := n6_; clear n0_ n1_ n2_ n3_ n4_ n5_ n6_; clear hb hbox hg; have hnb24 := NB116_113.out; have hnc24 := NB113_116.out; have hcz25_0 : w23.cell? ⟨gb116, 0, none⟩ = some (.int .i64 0) := (blk_cell BK116.out 0).trans rfl; have hcz25_1 : w23.cell? ⟨gb116, 1, none⟩ = some (.int .i64 0) := (blk_cell BK116.out 1).trans rfl; have hcz25_2 : w23.cell? ⟨gb116, 2, none⟩ = some (.int .i64 0) := (blk_cell BK116.out 2).trans rfl; have hfz25_0 := blk_frozen BK116.out 0; have hfz25_1 := blk_frozen BK116.out 1; have hfz25_2 := blk_frozen BK116.out 2; have hcz26_0 : w23.cell? ⟨gb113, 0, none⟩ = some (.string a1_0) := (blk_cell BK113.out 0).trans rfl; have hcz26_1 : w23.cell? ⟨gb113, 1, none⟩ = some (.slice A1_1 l1_1.length c1_1) := (blk_cell BK113.out 1).trans rfl; have hcz26_2 : w23.cell? ⟨gb113, 2, none⟩ = some (.slice A1_2 l1_2.length c1_2) := (blk_cell BK113.out 2).trans rfl; have hcz26_3 : w23.cell? ⟨gb113, 3, none⟩ = some (.slice A1_3 l1_3.length c1_3) := (blk_cell BK113.out 3).trans rfl; have hcz26_4 : w23.cell? ⟨gb113, 4, none⟩ = some (.slice A1_4 l1_4.length c1_4) := (blk_cell BK113.out 4).trans rfl; have hfz26_0 := blk_frozen BK113.out 0; have hfz26_1 := blk_frozen BK113.out 1; have hfz26_2 := blk_frozen BK113.out 2; have hfz26_3 := blk_frozen BK113.out 3; have hfz26_4 := blk_frozen BK113.out 4) | ((with_reducible refine gate_callee (f := 35) rfl ?_); refine goesL_ (some 37) rfl rfl Try.func35 (by kernel_rfl) rfl #[.slice A0 l0.length c0, .agg #[.string a1_0, .slice A1_1 l1_1.length c1_1, .slice A1_2 l1_2.length c1_2, .slice A1_3 l1_3.length c1_3, .slice A1_4 l1_4.length c1_4], .int .i64 a2, .agg #[.int .i64 ((rd_T54 l3 x29_2).f0), .int .i64 ((rd_T54 l3 x29_2).f1), .int .i64 ((rd_T54 l3 x29_2).f2)]] rfl mT ?_; (with_reducible refine (binding_term.calls k2 _ _ l0 a1_0 _ _ l1_1 _ _ l1_2 _ _ l1_3 _ _ l1_4 a2 ((rd_T54 l3 x29_2).f0) ((rd_T54 l3 x29_2).f1) ((rd_T54 l3 x29_2).f2) t117 _ ?side1 ?side2 ?side3 ?side4 ?side5 ?side6 ?side7 ?side8 ?side9 ?side10 A16.out).mono ?_); (case side1 => exact Kd.C_below HR0.out (bB2 HB.out GE113.out GE116.out)); (case side2 => exact HC0.out); (case side3 => exact Kd.C_below HR1_1.out (bB2 HB.out GE113.out GE116.out)); (case side4 => exact HC1_1.out); (case side5 => exact Kd.C_below HR1_2.out (bB2 HB.out GE113.out GE116.out)); (case side6 => exact HC1_2.out); (case side7 => exact Kd.C_below HR1_3.out (bB2 HB.out GE113.out GE116.out)); (case side8 => exact HC1_3.out); (case side9 => exact Kd.C_below HR1_4.out (bB2 HB.out GE113.out GE116.out)); (case side10 => exact HC1_4.out); rintro e w27 ⟨rfl, hb⟩; refine ⟨_, rfl, ?_⟩; have n0_ := aM (blk_below (g := gb113) (o := .cells #[.string a1_0, .slice A1_1 l1_1.length c1_1, .slice A1_2 l1_2.length c1_2, .slice A1_3 l1_3.length c1_3, .slice A1_4 l1_4.length c1_4] 27 (0, 0)) (by refine kR ?_; refine blk_far ?_ NB113_116.out _; refine kR ?_; refine blk_far ?_ NB113_116.out _; refine kR ?_; refine blk_far ?_ NB113_116.out _; refine kR ?_; exact BK113.out) hb); have n1_ := aM (blk_below (g := gb116) (o := .cells #[.int .i64 ((rd_T54 l3 x29_2).f0), .int .i64 ((rd_T54 l3 x29_2).f1), .int .i64 ((rd_T54 l3 x29_2).f2)] 54 (0, 0)) (by refine kR ?_; refine blk_put (cs := #[.int .i64 ((rd_T54 l3 x29_2).f0), .int .i64 ((rd_T54 l3 x29_2).f1), .int .i64 0]) ?_ 2 _ rfl; refine kR ?_; refine blk_put (cs := #[.int .i64 ((rd_T54 l3 x29_2).f0), .int .i64 0, .int .i64 0]) ?_ 1 _ rfl; refine kR ?_; refine blk_put (cs := #[.int .i64 0, .int .i64 0, .int .i64 0]) ?_ 0 _ rfl; refine kR ?_; exact BK116.out) hb); have n2_ := aM (below_step (bB2 HB.out GE113.out GE116.out) hb); clear BK113; clear BK116; clear HB; have BK113 := n0_; have BK116 := n1_; have HB := n2_; clear n0_ n1_ n2_; (try clear hb); (try clear hb2); (try clear hk); (try clear hi)))
           go_ret
           exact ⟨rT, bB2 HB.out GE113.out GE116.out⟩
         ·rw [if_neg c15] at H
          exact absurd H (by simp)
        ·rw [if_neg c14] at H
         exact absurd H (by simp)
       ·rw [if_neg c13] at H
        have c13b0 : decide (x29_2 < (l3.length : Int)) = false := decide_eq_false c13; clear c13
        obtain rfl := Option.some.inj H
        go_wp2
        go_ret
        exact ⟨rT, bB1 HB.out GE113.out⟩
 ·rw [if_neg c6] at H
  have c6b0 : (t114 == 0) = false := beq_eq_false_iff_ne.mpr c6; have c6b1 : (t114 != 0) = true := bne_iff_ne.mpr c6
  obtain rfl := Option.some.inj H
  go_enter Try.func13, Try.ntmps13
  go_wp2_with (first | ((with_reducible refine gate_dst (N := 5) rfl ?_); (try (refine gate_guard (by rfl) ?_; dsimp only)); refine box_event ?hg (N := 5) ?hd (cs := #[.string a1_0, .slice A1_1 l1_1.length c1_1, .slice A1_2 l1_2.length c1_2, .slice A1_3 l1_3.length c1_3, .slice A1_4 l1_4.length c1_4]) (t := 27) ?hr ?_; (case hd => rfl); (case hg => rfl); (case hr => first | (go_simp; done) | (go_simp; rfl)); intro gb113 hg w28 hbox hb; have n0_ := aM (below_step (bB HB.out) hb); have n1_ := aM (hbox); have n2_ := aM ((by rw [hg]; exact (below_size (bB HB.out)) : w.heap.size ≤ gb113)); have n3_ := aM ((by rw [hg]; exact (below_size (bB HB.out)) : w.heap.size ≤ gb113)); clear HB; have HB := n0_; have BK113 := n1_; have GW113 := n2_; have GE113 := n3_; clear n0_ n1_ n2_ n3_; clear hb hbox hg; have hcz29_0 : w28.cell? ⟨gb113, 0, none⟩ = some (.string a1_0) := (blk_cell BK113.out 0).trans rfl; have hcz29_1 : w28.cell? ⟨gb113, 1, none⟩ = some (.slice A1_1 l1_1.length c1_1) := (blk_cell BK113.out 1).trans rfl; have hcz29_2 : w28.cell? ⟨gb113, 2, none⟩ = some (.slice A1_2 l1_2.length c1_2) := (blk_cell BK113.out 2).trans rfl; have hcz29_3 : w28.cell? ⟨gb113, 3, none⟩ = some (.slice A1_3 l1_3.length c1_3) := (blk_cell BK113.out 3).trans rfl; have hcz29_4 : w28.cell? ⟨gb113, 4, none⟩ = some (.slice A1_4 l1_4.length c1_4) := (blk_cell BK113.out 4).trans rfl; have hfz29_0 := blk_frozen BK113.out 0; have hfz29_1 := blk_frozen BK113.out 1; have hfz29_2 := blk_frozen BK113.out 2; have hfz29_3 := blk_frozen BK113.out 3; have hfz29_4 := blk_frozen BK113.out 4) | ((with_reducible refine gate_callee (f := 11) rfl ?_); refine goesL_ (some 15) rfl rfl Try.func11 (by kernel_rfl) rfl #[.slice A0 l0.length c0, .agg #[.string a1_0, .slice A1_1 l1_1.length c1_1, .slice A1_2 l1_2.length c1_2, .slice A1_3 l1_3.length c1_3, .slice A1_4 l1_4.length c1_4]] rfl mT ?_; (with_reducible refine (binding_Check.calls _ _ l0 a1_0 _ _ l1_1 _ _ l1_2 _ _ l1_3 _ _ l1_4 t114 _ ?side1 ?side2 ?side3 ?side4 ?side5 ?side6 ?side7 ?side8 ?side9 ?side10 A5.out).mono ?_); (case side1 => exact cB HR0.out HB.out); (case side2 => exact HC0.out); (case side3 => exact cB HR1_1.out HB.out); (case side4 => exact HC1_1.out); (case side5 => exact cB HR1_2.out HB.out); (case side6 => exact HC1_2.out); (case side7 => exact cB HR1_3.out HB.out); (case side8 => exact HC1_3.out); (case side9 => exact cB HR1_4.out HB.out); (case side10 => exact HC1_4.out); rintro e w30 ⟨rfl, hb⟩; refine ⟨_, rfl, ?_⟩; have n0_ := aM (kW BK113.out hb); have n1_ := aM (below_step (bB1 HB.out GE113.out) hb); clear BK113; clear HB; have BK113 := n0_; have HB := n1_; clear n0_ n1_; (try clear hb); (try clear hb2); (try clear hk); (try clear hi)))
  go_ret
  exact ⟨rT, bB1 HB.out GE113.out⟩




/-! ### binding_is: function 37 -/
def binding_is.l0 : Nat → List (S51) → List Int → List (S48) → Int → Int → Option (Bool)
 | 0, _, _, _, _, _ => none
 | k + 1, x0, x2, x16, x17, x18 => if x18 < x17 then (if 0 ≤ x18 then (if x18 < (x16.length : Int) then (if x18 < (x2.length : Int) then (if (rd x2 x18) < 0 then (some false) else (if 0 ≤ ((rd_T48 x16 x18).f1) then (if ((rd_T48 x16 x18).f1) < (x0.length : Int) then (if (rd x2 x18) ≥ (((rd_T51 x0 ((rd_T48 x16 x18).f1)).f1).length : Int) then (some false) else (binding_is.l0 k x0 x2 x16 x17 (wrap64 (x18 + 1)))) else (none)) else (none))) else (none)) else (none)) else (none)) else (some true)
def binding_is.f (k : Nat) (l0 : List (S51)) (a1_0 : ByteArray) (l1_1 : List (S48)) (l1_2 : List (S62)) (l1_3 : List (S111)) (l1_4 : List (S111)) (l2 : List Int) : Option (Bool) := if (l2.length : Int) = (l1_1.length : Int) then (binding_is.l0 k l0 l2 l1_1 (l1_1.length : Int) 0) else (some false)
theorem binding_is.mono_l : ∀ k, (∀ y0 y1 y2 y3 y4, LeO (binding_is.l0 k y0 y1 y2 y3 y4) (binding_is.l0 (k + 1) y0 y1 y2 y3 y4))
 | 0 => fun _ _ _ _ _ r h => by simp [binding_is.l0] at h
 | k + 1 => by
  have ih0 := binding_is.mono_l k
  ·intro y0 y1 y2 y3 y4
   unfold binding_is.l0
   repeat' first
   | (with_reducible first | exact ih0 _ _ _ _ _ | exact LeO.refl _ | exact LeO.none _ | refine LeO.ite ?_ ?_ | refine LeO.bind ?_ (fun _ => ?_))
   | exact LeO.none _
   | refine LeO.ite ?_ ?_
   | refine LeO.bind ?_ (fun _ => ?_)
theorem binding_is.mono : ∀ a0 a1 a2 a3 a4 a5 a6 k, LeO (binding_is.f k a0 a1 a2 a3 a4 a5 a6) (binding_is.f (k + 1) a0 a1 a2 a3 a4 a5 a6) := by
 intro a0 a1 a2 a3 a4 a5 a6 k
 have ih0 := binding_is.mono_l k
 unfold binding_is.f
 repeat' first
   | (with_reducible first | exact ih0 _ _ _ _ _ | exact LeO.refl _ | exact LeO.none _ | refine LeO.ite ?_ ?_ | refine LeO.bind ?_ (fun _ => ?_))
   | exact LeO.none _
   | refine LeO.ite ?_ ?_
   | refine LeO.bind ?_ (fun _ => ?_)
set_option maxHeartbeats 8000000 in
set_option maxRecDepth 100000 in
theorem binding_is.calls (k : Nat) (A0 : Option Addr) (c0 : Nat) (l0 : List (S51)) (a1_0 : ByteArray) (A1_1 : Option Addr) (c1_1 : Nat) (l1_1 : List (S48)) (A1_2 : Option Addr) (c1_2 : Nat) (l1_2 : List (S62)) (A1_3 : Option Addr) (c1_3 : Nat) (l1_3 : List (S111)) (A1_4 : Option Addr) (c1_4 : Nat) (l1_4 : List (S111)) (A2 : Option Addr) (c2 : Nat) (l2 : List Int) (r : Bool) (w : World) (hr0 : Kd.C k51 w A0 l0.length l0) (hc0 : l0.length ≤ c0) (hr1_1 : Kd.C k48 w A1_1 l1_1.length l1_1) (hc1_1 : l1_1.length ≤ c1_1) (hr1_2 : Kd.C k62 w A1_2 l1_2.length l1_2) (hc1_2 : l1_2.length ≤ c1_2) (hr1_3 : Kd.C k111 w A1_3 l1_3.length l1_3) (hc1_3 : l1_3.length ≤ c1_3) (hr1_4 : Kd.C k111 w A1_4 l1_4.length l1_4) (hc1_4 : l1_4.length ≤ c1_4) (hr2 : Kd.C (Kd.int .i64) w A2 l2.length l2) (hc2 : l2.length ≤ c2) (h : binding_is.f k l0 a1_0 l1_1 l1_2 l1_3 l1_4 l2 = some r) :
  Calls Try.prog 37 #[.slice A0 l0.length c0, .agg #[.string a1_0, .slice A1_1 l1_1.length c1_1, .slice A1_2 l1_2.length c1_2, .slice A1_3 l1_3.length c1_3, .slice A1_4 l1_4.length c1_4], .slice A2 l2.length c2] w fun e w' => e = .returned (.bool r) ∧ Below w.heap.size w w' := by
 have hu27 := Try.underlying27; have hu9 := Try.underlying9; have hu23 := Try.underlying23; have hu24 := Try.underlying24; have hu25 := Try.underlying25; have hu48 := Try.underlying48; have hu3 := Try.underlying3; have hu9 := Try.underlying9; have HR0 := aM hr0; have HC0 := aM hc0; clear hr0 hc0; have HR1_1 := aM hr1_1; have HC1_1 := aM hc1_1; clear hr1_1 hc1_1; have HR1_2 := aM hr1_2; have HC1_2 := aM hc1_2; clear hr1_2 hc1_2; have HR1_3 := aM hr1_3; have HC1_3 := aM hc1_3; clear hr1_3 hc1_3; have HR1_4 := aM hr1_4; have HC1_4 := aM hc1_4; clear hr1_4 hc1_4; have HR2 := aM hr2; have HC2 := aM hc2; clear hr2 hc2; have HB := aM (Below.refl w.heap.size w); have H : (if (l2.length : Int) = (l1_1.length : Int) then (binding_is.l0 k l0 l2 l1_1 (l1_1.length : Int) 0) else (some false)) = some r := h; clear h
 by_cases c4 : (l2.length : Int) = (l1_1.length : Int)
 ·rw [if_pos c4] at H
  have c4b0 : ((l2.length : Int) == (l1_1.length : Int)) = true := beq_iff_eq.mpr c4; have c4b1 : ((l2.length : Int) != (l1_1.length : Int)) = false := bne_eq_false_iff_eq.mpr c4
  have c4b2 : (l2.length == l1_1.length) = true := by first | simpa using c4 | (simp at c4 ⊢; omega)
  clear c4
  have H' := aM H
  clear H
  go_enter Try.func37, Try.ntmps37
  go_wp2_with (first | ((with_reducible refine gate_dst (N := 4) rfl ?_); (try (refine gate_guard (by rfl) ?_; dsimp only)); refine box_event ?hg (N := 4) ?hd (cs := #[.string a1_0, .slice A1_1 l1_1.length c1_1, .slice A1_2 l1_2.length c1_2, .slice A1_3 l1_3.length c1_3, .slice A1_4 l1_4.length c1_4]) (t := 27) ?hr ?_; (case hd => rfl); (case hg => rfl); (case hr => first | (go_simp; done) | (go_simp; rfl)); intro gb118 hg w5 hbox hb; have n0_ := aM (below_step (bB HB.out) hb); have n1_ := aM (hbox); have n2_ := aM ((by rw [hg]; exact (below_size (bB HB.out)) : w.heap.size ≤ gb118)); have n3_ := aM ((by rw [hg]; exact (below_size (bB HB.out)) : w.heap.size ≤ gb118)); clear HB; have HB := n0_; have BK118 := n1_; have GW118 := n2_; have GE118 := n3_; clear n0_ n1_ n2_ n3_; clear hb hbox hg; have hcz6_0 : w5.cell? ⟨gb118, 0, none⟩ = some (.string a1_0) := (blk_cell BK118.out 0).trans rfl; have hcz6_1 : w5.cell? ⟨gb118, 1, none⟩ = some (.slice A1_1 l1_1.length c1_1) := (blk_cell BK118.out 1).trans rfl; have hcz6_2 : w5.cell? ⟨gb118, 2, none⟩ = some (.slice A1_2 l1_2.length c1_2) := (blk_cell BK118.out 2).trans rfl; have hcz6_3 : w5.cell? ⟨gb118, 3, none⟩ = some (.slice A1_3 l1_3.length c1_3) := (blk_cell BK118.out 3).trans rfl; have hcz6_4 : w5.cell? ⟨gb118, 4, none⟩ = some (.slice A1_4 l1_4.length c1_4) := (blk_cell BK118.out 4).trans rfl; have hfz6_0 := blk_frozen BK118.out 0; have hfz6_1 := blk_frozen BK118.out 1; have hfz6_2 := blk_frozen BK118.out 2; have hfz6_3 := blk_frozen BK118.out 3; have hfz6_4 := blk_frozen BK118.out 4))
  repeat (go_quiet (fail); try go_wp2)
  go_loopg [18] k (fun kq v18 w' => ∃ (x18_1 : Int), v18 = .int .i64 x18_1 ∧ Aside0 (binding_is.l0 kq l0 l2 l1_1 (l1_1.length : Int) x18_1 = some r) ∧ Aside0 (kq ≤ k) ∧ Aside0 (w'.heap[gb118]? = some (.cells #[.string a1_0, (.slice A1_1 l1_1.length c1_1), (.slice A1_2 l1_2.length c1_2), (.slice A1_3 l1_3.length c1_3), (.slice A1_4 l1_4.length c1_4)] 27 (0, 0))) ∧ Aside0 (Below w.heap.size w w'))
  case atStart => exact ⟨(0), eT, H', ⟨Nat.le_refl _⟩, ⟨kB BK118.out⟩, ⟨bB1 HB.out GE118.out⟩⟩
  case round =>
   clear H'; obtain ⟨x18_1, rfl, HA, HK1, BK118, HB⟩ := hrel
   cases gk with
   | zero => exact absurd HA.out (by simp [binding_is.l0])
   | succ k1 =>
    have H := HA.out; clear HA
    simp only [binding_is.l0] at H
    by_cases c7 : x18_1 < (l1_1.length : Int)
    ·rw [if_pos c7] at H
     have c7b0 : decide (x18_1 < (l1_1.length : Int)) = true := decide_eq_true c7; clear c7
     by_cases c8 : 0 ≤ x18_1
     ·rw [if_pos c8] at H
      have c8b0 : decide (0 ≤ x18_1) = true := decide_eq_true c8; clear c8
      by_cases c9 : x18_1 < (l1_1.length : Int)
      ·rw [if_pos c9] at H
       have c9b0 : decide (x18_1 < (l1_1.length : Int)) = true := decide_eq_true c9; clear c9
       by_cases c10 : x18_1 < (l2.length : Int)
       ·rw [if_pos c10] at H
        have c10b0 : decide (x18_1 < (l2.length : Int)) = true := decide_eq_true c10; clear c10
        by_cases c11 : (rd l2 x18_1) < 0
        ·rw [if_pos c11] at H
         have c11b0 : decide ((rd l2 x18_1) < 0) = true := decide_eq_true c11; clear c11
         obtain rfl := Option.some.inj H
         have p119 : 0 ≤ (x18_1 : Int) := dT; have q119 : x18_1 < (l1_1.length : Int) := dT; obtain ⟨ad119, e119, hx119_0, hx119_1⟩ := at_T48 HR1_1.out x18_1 p119 q119; cases e119
         try replace hx119_0 := (HB.out.cell (World.block_lt_of_cell? w _ hx119_0)).trans hx119_0
         try replace hx119_1 := (HB.out.cell (World.block_lt_of_cell? w _ hx119_1)).trans hx119_1
         replace p119 := eq_true p119; replace q119 := eq_true q119
         go_wp2_with (first | ((with_reducible refine gate_dst (N := 8) rfl ?_); (try (refine gate_guard (by rfl) ?_; dsimp only)); refine box_event ?hg (N := 8) ?hd (cs := #[.string (⟨#[]⟩ : ByteArray), .int .i64 0]) (t := 48) ?hr ?_; (case hd => rfl); (case hg => rfl); (case hr => first | (go_simp; done) | (go_simp; rfl)); intro gb120 hg w12 hbox hb; have n0_ := aM (kW BK118.out hb); have n1_ := aM (below_step (bB1 HB.out GE118.out) hb); have n2_ := aM (hbox); have n3_ := aM ((by rw [hg]; exact (below_size (bB1 HB.out GE118.out)) : w.heap.size ≤ gb120)); have n4_ := aM ((by rw [hg]; exact (below_size (bB1 HB.out GE118.out)) : w.heap.size ≤ gb120)); have n5_ := aM ((by rw [hg]; exact Nat.ne_of_lt (kL BK118.out) : gb118 ≠ gb120)); have n6_ := aM ((by rw [hg]; exact Nat.ne_of_gt (kL BK118.out) : gb120 ≠ gb118)); clear BK118; clear HB; have BK118 := n0_; have HB := n1_; have BK120 := n2_; have GW120 := n3_; have GE120 := n4_; have NB118_120 := n5_; have NB120_118 := n6_; clear n0_ n1_ n2_ n3_ n4_ n5_ n6_; clear hb hbox hg; have hnb13 := NB120_118.out; have hnc13 := NB118_120.out; have hcz14_0 : w12.cell? ⟨gb120, 0, none⟩ = some (.string (⟨#[]⟩ : ByteArray)) := (blk_cell BK120.out 0).trans rfl; have hcz14_1 : w12.cell? ⟨gb120, 1, none⟩ = some (.int .i64 0) := (blk_cell BK120.out 1).trans rfl; have hfz14_0 := blk_frozen BK120.out 0; have hfz14_1 := blk_frozen BK120.out 1; have p121 : 0 ≤ (x18_1 : Int) := dT; have q121 : x18_1 < (l2.length : Int) := dT; obtain ⟨ad121, e121, hx121_0⟩ := Kd.at_int HR2.out x18_1 p121 q121; cases e121; have hn121_0 : ad121.block ≠ gb120 := Nat.ne_of_lt (Nat.lt_of_lt_of_le (by have := World.block_lt_of_cell? _ _ hx121_0; first | rwa [add_block] at this | exact this) GW120.out); have hn121_1 : ad121.block ≠ gb120 := Nat.ne_of_lt (Nat.lt_of_lt_of_le (by have := World.block_lt_of_cell? _ _ hx121_0; first | rwa [add_block] at this | exact this) GW120.out); try replace hx121_0 := (HB.out.cell (World.block_lt_of_cell? w _ hx121_0)).trans hx121_0; replace hx121_0 := (cell_far (p := ⟨gb120, 0, none⟩) (by first | (rw [add_block]; exact hn121_0) | (show (Addr.add _ _).block ≠ _; rw [add_block]; exact hn121_0) | exact hn121_0) (.string ((rd_T48 l1_1 x18_1).f0))).trans hx121_0; replace hx121_0 := (cell_far (p := ⟨gb120, 1, none⟩) (by first | (rw [add_block]; exact hn121_1) | (show (Addr.add _ _).block ≠ _; rw [add_block]; exact hn121_1) | exact hn121_1) (.int .i64 ((rd_T48 l1_1 x18_1).f1))).trans hx121_0; (try have hy121_0 := fun (n_ : Nat) => (show ((((w12.drewN n_).setCell ⟨gb120, 0, none⟩ (.string ((rd_T48 l1_1 x18_1).f0))).setCell ⟨gb120, 1, none⟩ (.int .i64 ((rd_T48 l1_1 x18_1).f1)))).cell? _ = some _ from hx121_0)); clear hn121_0; clear hn121_1; replace p121 := eq_true p121; replace q121 := eq_true q121))
         repeat (go_quiet (fail); try go_wp2)
         go_ret
         exact ⟨rT, bB2 HB.out GE118.out GE120.out⟩
        ·rw [if_neg c11] at H
         have c11b0 : decide ((rd l2 x18_1) < 0) = false := decide_eq_false c11; clear c11
         by_cases c15 : 0 ≤ ((rd_T48 l1_1 x18_1).f1)
         ·rw [if_pos c15] at H
          have c15b0 : decide (0 ≤ ((rd_T48 l1_1 x18_1).f1)) = true := decide_eq_true c15; clear c15
          by_cases c16 : ((rd_T48 l1_1 x18_1).f1) < (l0.length : Int)
          ·rw [if_pos c16] at H
           have c16b0 : decide (((rd_T48 l1_1 x18_1).f1) < (l0.length : Int)) = true := decide_eq_true c16; clear c16
           by_cases c17 : (rd l2 x18_1) ≥ (((rd_T51 l0 ((rd_T48 l1_1 x18_1).f1)).f1).length : Int)
           ·rw [if_pos c17] at H
            have c17b0 : decide ((((rd_T51 l0 ((rd_T48 l1_1 x18_1).f1)).f1).length : Int) ≤ (rd l2 x18_1)) = true := decide_eq_true c17; clear c17
            obtain rfl := Option.some.inj H
            have p119 : 0 ≤ (x18_1 : Int) := dT; have q119 : x18_1 < (l1_1.length : Int) := dT; obtain ⟨ad119, e119, hx119_0, hx119_1⟩ := at_T48 HR1_1.out x18_1 p119 q119; cases e119
            try replace hx119_0 := (HB.out.cell (World.block_lt_of_cell? w _ hx119_0)).trans hx119_0
            try replace hx119_1 := (HB.out.cell (World.block_lt_of_cell? w _ hx119_1)).trans hx119_1
            replace p119 := eq_true p119; replace q119 := eq_true q119
            go_wp2_with (first | ((with_reducible refine gate_dst (N := 8) rfl ?_); (try (refine gate_guard (by rfl) ?_; dsimp only)); refine box_event ?hg (N := 8) ?hd (cs := #[.string (⟨#[]⟩ : ByteArray), .int .i64 0]) (t := 48) ?hr ?_; (case hd => rfl); (case hg => rfl); (case hr => first | (go_simp; done) | (go_simp; rfl)); intro gb120 hg w18 hbox hb; have n0_ := aM (kW BK118.out hb); have n1_ := aM (below_step (bB1 HB.out GE118.out) hb); have n2_ := aM (hbox); have n3_ := aM ((by rw [hg]; exact (below_size (bB1 HB.out GE118.out)) : w.heap.size ≤ gb120)); have n4_ := aM ((by rw [hg]; exact (below_size (bB1 HB.out GE118.out)) : w.heap.size ≤ gb120)); have n5_ := aM ((by rw [hg]; exact Nat.ne_of_lt (kL BK118.out) : gb118 ≠ gb120)); have n6_ := aM ((by rw [hg]; exact Nat.ne_of_gt (kL BK118.out) : gb120 ≠ gb118)); clear BK118; clear HB; have BK118 := n0_; have HB := n1_; have BK120 := n2_; have GW120 := n3_; have GE120 := n4_; have NB118_120 := n5_; have NB120_118 := n6_; clear n0_ n1_ n2_ n3_ n4_ n5_ n6_; clear hb hbox hg; have hnb19 := NB120_118.out; have hnc19 := NB118_120.out; have hcz20_0 : w18.cell? ⟨gb120, 0, none⟩ = some (.string (⟨#[]⟩ : ByteArray)) := (blk_cell BK120.out 0).trans rfl; have hcz20_1 : w18.cell? ⟨gb120, 1, none⟩ = some (.int .i64 0) := (blk_cell BK120.out 1).trans rfl; have hfz20_0 := blk_frozen BK120.out 0; have hfz20_1 := blk_frozen BK120.out 1; have p121 : 0 ≤ (x18_1 : Int) := dT; have q121 : x18_1 < (l2.length : Int) := dT; obtain ⟨ad121, e121, hx121_0⟩ := Kd.at_int HR2.out x18_1 p121 q121; cases e121; have hn121_0 : ad121.block ≠ gb120 := Nat.ne_of_lt (Nat.lt_of_lt_of_le (by have := World.block_lt_of_cell? _ _ hx121_0; first | rwa [add_block] at this | exact this) GW120.out); have hn121_1 : ad121.block ≠ gb120 := Nat.ne_of_lt (Nat.lt_of_lt_of_le (by have := World.block_lt_of_cell? _ _ hx121_0; first | rwa [add_block] at this | exact this) GW120.out); try replace hx121_0 := (HB.out.cell (World.block_lt_of_cell? w _ hx121_0)).trans hx121_0; replace hx121_0 := (cell_far (p := ⟨gb120, 0, none⟩) (by first | (rw [add_block]; exact hn121_0) | (show (Addr.add _ _).block ≠ _; rw [add_block]; exact hn121_0) | exact hn121_0) (.string ((rd_T48 l1_1 x18_1).f0))).trans hx121_0; replace hx121_0 := (cell_far (p := ⟨gb120, 1, none⟩) (by first | (rw [add_block]; exact hn121_1) | (show (Addr.add _ _).block ≠ _; rw [add_block]; exact hn121_1) | exact hn121_1) (.int .i64 ((rd_T48 l1_1 x18_1).f1))).trans hx121_0; (try have hy121_0 := fun (n_ : Nat) => (show ((((w18.drewN n_).setCell ⟨gb120, 0, none⟩ (.string ((rd_T48 l1_1 x18_1).f0))).setCell ⟨gb120, 1, none⟩ (.int .i64 ((rd_T48 l1_1 x18_1).f1)))).cell? _ = some _ from hx121_0)); clear hn121_0; clear hn121_1; replace p121 := eq_true p121; replace q121 := eq_true q121; have p122 : 0 ≤ (x18_1 : Int) := dT; have q122 : x18_1 < (l2.length : Int) := dT; obtain ⟨ad122, e122, hx122_0⟩ := Kd.at_int HR2.out x18_1 p122 q122; obtain rfl : ad121 = ad122 := (by injection e122); have hn122_0 : ad121.block ≠ gb120 := Nat.ne_of_lt (Nat.lt_of_lt_of_le (by have := World.block_lt_of_cell? _ _ hx122_0; first | rwa [add_block] at this | exact this) GW120.out); have hn122_1 : ad121.block ≠ gb120 := Nat.ne_of_lt (Nat.lt_of_lt_of_le (by have := World.block_lt_of_cell? _ _ hx122_0; first | rwa [add_block] at this | exact this) GW120.out); try replace hx122_0 := (HB.out.cell (World.block_lt_of_cell? w _ hx122_0)).trans hx122_0; replace hx122_0 := (cell_far (p := ⟨gb120, 0, none⟩) (by first | (rw [add_block]; exact hn122_0) | (show (Addr.add _ _).block ≠ _; rw [add_block]; exact hn122_0) | exact hn122_0) (.string ((rd_T48 l1_1 x18_1).f0))).trans hx122_0; replace hx122_0 := (cell_far (p := ⟨gb120, 1, none⟩) (by first | (rw [add_block]; exact hn122_1) | (show (Addr.add _ _).block ≠ _; rw [add_block]; exact hn122_1) | exact hn122_1) (.int .i64 ((rd_T48 l1_1 x18_1).f1))).trans hx122_0; (try have hy122_0 := fun (n_ : Nat) => (show ((((w18.drewN n_).setCell ⟨gb120, 0, none⟩ (.string ((rd_T48 l1_1 x18_1).f0))).setCell ⟨gb120, 1, none⟩ (.int .i64 ((rd_T48 l1_1 x18_1).f1)))).cell? _ = some _ from hx122_0)); clear hn122_0; clear hn122_1; replace p122 := eq_true p122; replace q122 := eq_true q122; have p123 : 0 ≤ (((rd_T48 l1_1 x18_1).f1) : Int) := dT; have q123 : ((rd_T48 l1_1 x18_1).f1) < (l0.length : Int) := dT; obtain ⟨ad123, A123_1, c123_1, e123, hx123_0, hx123_1, hl123_1, hi123_1⟩ := at_T51 HR0.out ((rd_T48 l1_1 x18_1).f1) p123 q123; cases e123; have hn123_0 : ad123.block ≠ gb120 := Nat.ne_of_lt (Nat.lt_of_lt_of_le (by have := World.block_lt_of_cell? _ _ hx123_0; first | rwa [add_block] at this | exact this) GW120.out); have hn123_1 : ad123.block ≠ gb120 := Nat.ne_of_lt (Nat.lt_of_lt_of_le (by have := World.block_lt_of_cell? _ _ hx123_0; first | rwa [add_block] at this | exact this) GW120.out); try replace hx123_0 := (HB.out.cell (World.block_lt_of_cell? w _ hx123_0)).trans hx123_0; try replace hx123_1 := (HB.out.cell (World.block_lt_of_cell? w _ hx123_1)).trans hx123_1; have HR123_1 := aM hi123_1; have HC123_1 := aM hl123_1; clear hi123_1 hl123_1; replace hx123_0 := (cell_far (p := ⟨gb120, 0, none⟩) (by first | (rw [add_block]; exact hn123_0) | (show (Addr.add _ _).block ≠ _; rw [add_block]; exact hn123_0) | exact hn123_0) (.string ((rd_T48 l1_1 x18_1).f0))).trans hx123_0; replace hx123_1 := (cell_far (p := ⟨gb120, 0, none⟩) (by first | (rw [add_block]; exact hn123_0) | (show (Addr.add _ _).block ≠ _; rw [add_block]; exact hn123_0) | exact hn123_0) (.string ((rd_T48 l1_1 x18_1).f0))).trans hx123_1; replace hx123_0 := (cell_far (p := ⟨gb120, 1, none⟩) (by first | (rw [add_block]; exact hn123_1) | (show (Addr.add _ _).block ≠ _; rw [add_block]; exact hn123_1) | exact hn123_1) (.int .i64 ((rd_T48 l1_1 x18_1).f1))).trans hx123_0; replace hx123_1 := (cell_far (p := ⟨gb120, 1, none⟩) (by first | (rw [add_block]; exact hn123_1) | (show (Addr.add _ _).block ≠ _; rw [add_block]; exact hn123_1) | exact hn123_1) (.int .i64 ((rd_T48 l1_1 x18_1).f1))).trans hx123_1; (try have hy123_0 := fun (n_ : Nat) => (show ((((w18.drewN n_).setCell ⟨gb120, 0, none⟩ (.string ((rd_T48 l1_1 x18_1).f0))).setCell ⟨gb120, 1, none⟩ (.int .i64 ((rd_T48 l1_1 x18_1).f1)))).cell? _ = some _ from hx123_0)); (try have hy123_1 := fun (n_ : Nat) => (show ((((w18.drewN n_).setCell ⟨gb120, 0, none⟩ (.string ((rd_T48 l1_1 x18_1).f0))).setCell ⟨gb120, 1, none⟩ (.int .i64 ((rd_T48 l1_1 x18_1).f1)))).cell? _ = some _ from hx123_1)); clear hn123_0; clear hn123_1; replace p123 := eq_true p123; replace q123 := eq_true q123))
            repeat (go_quiet (fail); try go_wp2)
            go_ret
            exact ⟨rT, bB2 HB.out GE118.out GE120.out⟩
           ·rw [if_neg c17] at H
            have c17b0 : decide ((((rd_T51 l0 ((rd_T48 l1_1 x18_1).f1)).f1).length : Int) ≤ (rd l2 x18_1)) = false := decide_eq_false c17; clear c17
            have H' := aM H
            clear H; have p119 : 0 ≤ (x18_1 : Int) := dT; have q119 : x18_1 < (l1_1.length : Int) := dT; obtain ⟨ad119, e119, hx119_0, hx119_1⟩ := at_T48 HR1_1.out x18_1 p119 q119; cases e119
            try replace hx119_0 := (HB.out.cell (World.block_lt_of_cell? w _ hx119_0)).trans hx119_0
            try replace hx119_1 := (HB.out.cell (World.block_lt_of_cell? w _ hx119_1)).trans hx119_1
            replace p119 := eq_true p119; replace q119 := eq_true q119
            go_wp2_with (first | ((with_reducible refine gate_dst (N := 8) rfl ?_); (try (refine gate_guard (by rfl) ?_; dsimp only)); refine box_event ?hg (N := 8) ?hd (cs := #[.string (⟨#[]⟩ : ByteArray), .int .i64 0]) (t := 48) ?hr ?_; (case hd => rfl); (case hg => rfl); (case hr => first | (go_simp; done) | (go_simp; rfl)); intro gb120 hg w21 hbox hb; have n0_ := aM (kW BK118.out hb); have n1_ := aM (below_step (bB1 HB.out GE118.out) hb); have n2_ := aM (hbox); have n3_ := aM ((by rw [hg]; exact (below_size (bB1 HB.out GE118.out)) : w.heap.size ≤ gb120)); have n4_ := aM ((by rw [hg]; exact (below_size (bB1 HB.out GE118.out)) : w.heap.size ≤ gb120)); have n5_ := aM ((by rw [hg]; exact Nat.ne_of_lt (kL BK118.out) : gb118 ≠ gb120)); have n6_ := aM ((by rw [hg]; exact Nat.ne_of_gt (kL BK118.out) : gb120 ≠ gb118)); clear BK118; clear HB; have BK118 := n0_; have HB := n1_; have BK120 := n2_; have GW120 := n3_; have GE120 := n4_; have NB118_120 := n5_; have NB120_118 := n6_; clear n0_ n1_ n2_ n3_ n4_ n5_ n6_; clear hb hbox hg; have hnb22 := NB120_118.out; have hnc22 := NB118_120.out; have hcz23_0 : w21.cell? ⟨gb120, 0, none⟩ = some (.string (⟨#[]⟩ : ByteArray)) := (blk_cell BK120.out 0).trans rfl; have hcz23_1 : w21.cell? ⟨gb120, 1, none⟩ = some (.int .i64 0) := (blk_cell BK120.out 1).trans rfl; have hfz23_0 := blk_frozen BK120.out 0; have hfz23_1 := blk_frozen BK120.out 1; have p121 : 0 ≤ (x18_1 : Int) := dT; have q121 : x18_1 < (l2.length : Int) := dT; obtain ⟨ad121, e121, hx121_0⟩ := Kd.at_int HR2.out x18_1 p121 q121; cases e121; have hn121_0 : ad121.block ≠ gb120 := Nat.ne_of_lt (Nat.lt_of_lt_of_le (by have := World.block_lt_of_cell? _ _ hx121_0; first | rwa [add_block] at this | exact this) GW120.out); have hn121_1 : ad121.block ≠ gb120 := Nat.ne_of_lt (Nat.lt_of_lt_of_le (by have := World.block_lt_of_cell? _ _ hx121_0; first | rwa [add_block] at this | exact this) GW120.out); try replace hx121_0 := (HB.out.cell (World.block_lt_of_cell? w _ hx121_0)).trans hx121_0; replace hx121_0 := (cell_far (p := ⟨gb120, 0, none⟩) (by first | (rw [add_block]; exact hn121_0) | (show (Addr.add _ _).block ≠ _; rw [add_block]; exact hn121_0) | exact hn121_0) (.string ((rd_T48 l1_1 x18_1).f0))).trans hx121_0; replace hx121_0 := (cell_far (p := ⟨gb120, 1, none⟩) (by first | (rw [add_block]; exact hn121_1) | (show (Addr.add _ _).block ≠ _; rw [add_block]; exact hn121_1) | exact hn121_1) (.int .i64 ((rd_T48 l1_1 x18_1).f1))).trans hx121_0; (try have hy121_0 := fun (n_ : Nat) => (show ((((w21.drewN n_).setCell ⟨gb120, 0, none⟩ (.string ((rd_T48 l1_1 x18_1).f0))).setCell ⟨gb120, 1, none⟩ (.int .i64 ((rd_T48 l1_1 x18_1).f1)))).cell? _ = some _ from hx121_0)); clear hn121_0; clear hn121_1; replace p121 := eq_true p121; replace q121 := eq_true q121; have p122 : 0 ≤ (x18_1 : Int) := dT; have q122 : x18_1 < (l2.length : Int) := dT; obtain ⟨ad122, e122, hx122_0⟩ := Kd.at_int HR2.out x18_1 p122 q122; obtain rfl : ad121 = ad122 := (by injection e122); have hn122_0 : ad121.block ≠ gb120 := Nat.ne_of_lt (Nat.lt_of_lt_of_le (by have := World.block_lt_of_cell? _ _ hx122_0; first | rwa [add_block] at this | exact this) GW120.out); have hn122_1 : ad121.block ≠ gb120 := Nat.ne_of_lt (Nat.lt_of_lt_of_le (by have := World.block_lt_of_cell? _ _ hx122_0; first | rwa [add_block] at this | exact this) GW120.out); try replace hx122_0 := (HB.out.cell (World.block_lt_of_cell? w _ hx122_0)).trans hx122_0; replace hx122_0 := (cell_far (p := ⟨gb120, 0, none⟩) (by first | (rw [add_block]; exact hn122_0) | (show (Addr.add _ _).block ≠ _; rw [add_block]; exact hn122_0) | exact hn122_0) (.string ((rd_T48 l1_1 x18_1).f0))).trans hx122_0; replace hx122_0 := (cell_far (p := ⟨gb120, 1, none⟩) (by first | (rw [add_block]; exact hn122_1) | (show (Addr.add _ _).block ≠ _; rw [add_block]; exact hn122_1) | exact hn122_1) (.int .i64 ((rd_T48 l1_1 x18_1).f1))).trans hx122_0; (try have hy122_0 := fun (n_ : Nat) => (show ((((w21.drewN n_).setCell ⟨gb120, 0, none⟩ (.string ((rd_T48 l1_1 x18_1).f0))).setCell ⟨gb120, 1, none⟩ (.int .i64 ((rd_T48 l1_1 x18_1).f1)))).cell? _ = some _ from hx122_0)); clear hn122_0; clear hn122_1; replace p122 := eq_true p122; replace q122 := eq_true q122; have p123 : 0 ≤ (((rd_T48 l1_1 x18_1).f1) : Int) := dT; have q123 : ((rd_T48 l1_1 x18_1).f1) < (l0.length : Int) := dT; obtain ⟨ad123, A123_1, c123_1, e123, hx123_0, hx123_1, hl123_1, hi123_1⟩ := at_T51 HR0.out ((rd_T48 l1_1 x18_1).f1) p123 q123; cases e123; have hn123_0 : ad123.block ≠ gb120 := Nat.ne_of_lt (Nat.lt_of_lt_of_le (by have := World.block_lt_of_cell? _ _ hx123_0; first | rwa [add_block] at this | exact this) GW120.out); have hn123_1 : ad123.block ≠ gb120 := Nat.ne_of_lt (Nat.lt_of_lt_of_le (by have := World.block_lt_of_cell? _ _ hx123_0; first | rwa [add_block] at this | exact this) GW120.out); try replace hx123_0 := (HB.out.cell (World.block_lt_of_cell? w _ hx123_0)).trans hx123_0; try replace hx123_1 := (HB.out.cell (World.block_lt_of_cell? w _ hx123_1)).trans hx123_1; have HR123_1 := aM hi123_1; have HC123_1 := aM hl123_1; clear hi123_1 hl123_1; replace hx123_0 := (cell_far (p := ⟨gb120, 0, none⟩) (by first | (rw [add_block]; exact hn123_0) | (show (Addr.add _ _).block ≠ _; rw [add_block]; exact hn123_0) | exact hn123_0) (.string ((rd_T48 l1_1 x18_1).f0))).trans hx123_0; replace hx123_1 := (cell_far (p := ⟨gb120, 0, none⟩) (by first | (rw [add_block]; exact hn123_0) | (show (Addr.add _ _).block ≠ _; rw [add_block]; exact hn123_0) | exact hn123_0) (.string ((rd_T48 l1_1 x18_1).f0))).trans hx123_1; replace hx123_0 := (cell_far (p := ⟨gb120, 1, none⟩) (by first | (rw [add_block]; exact hn123_1) | (show (Addr.add _ _).block ≠ _; rw [add_block]; exact hn123_1) | exact hn123_1) (.int .i64 ((rd_T48 l1_1 x18_1).f1))).trans hx123_0; replace hx123_1 := (cell_far (p := ⟨gb120, 1, none⟩) (by first | (rw [add_block]; exact hn123_1) | (show (Addr.add _ _).block ≠ _; rw [add_block]; exact hn123_1) | exact hn123_1) (.int .i64 ((rd_T48 l1_1 x18_1).f1))).trans hx123_1; (try have hy123_0 := fun (n_ : Nat) => (show ((((w21.drewN n_).setCell ⟨gb120, 0, none⟩ (.string ((rd_T48 l1_1 x18_1).f0))).setCell ⟨gb120, 1, none⟩ (.int .i64 ((rd_T48 l1_1 x18_1).f1)))).cell? _ = some _ from hx123_0)); (try have hy123_1 := fun (n_ : Nat) => (show ((((w21.drewN n_).setCell ⟨gb120, 0, none⟩ (.string ((rd_T48 l1_1 x18_1).f0))).setCell ⟨gb120, 1, none⟩ (.int .i64 ((rd_T48 l1_1 x18_1).f1)))).cell? _ = some _ from hx123_1)); clear hn123_0; clear hn123_1; replace p123 := eq_true p123; replace q123 := eq_true q123))
            repeat (go_quiet (fail); try go_wp2)
            go_roundg k1
            case measure => have := HK1.out; omega
            case rel => exact ⟨(wrap64 (x18_1 + 1)), eT, H', ⟨by have := HK1.out; omega⟩, ⟨by refine kR ?_; refine blk_far ?_ NB118_120.out _; refine kR ?_; refine blk_far ?_ NB118_120.out _; refine kR ?_; exact BK118.out⟩, ⟨bB2 HB.out GE118.out GE120.out⟩⟩
          ·rw [if_neg c16] at H
           exact absurd H (by simp)
         ·rw [if_neg c15] at H
          exact absurd H (by simp)
       ·rw [if_neg c10] at H
        exact absurd H (by simp)
      ·rw [if_neg c9] at H
       exact absurd H (by simp)
     ·rw [if_neg c8] at H
      exact absurd H (by simp)
    ·rw [if_neg c7] at H
     have c7b0 : decide (x18_1 < (l1_1.length : Int)) = false := decide_eq_false c7; clear c7
     obtain rfl := Option.some.inj H
     go_wp2
     repeat (go_quiet (fail); try go_wp2)
     go_ret
     exact ⟨rT, bB1 HB.out GE118.out⟩
 ·rw [if_neg c4] at H
  have c4b0 : ((l2.length : Int) == (l1_1.length : Int)) = false := beq_eq_false_iff_ne.mpr c4; have c4b1 : ((l2.length : Int) != (l1_1.length : Int)) = true := bne_iff_ne.mpr c4
  have c4b2 : (l2.length == l1_1.length) = false := by first | simpa using c4 | (simp at c4 ⊢; omega)
  obtain rfl := Option.some.inj H
  go_enter Try.func37, Try.ntmps37
  go_wp2_with (first | ((with_reducible refine gate_dst (N := 4) rfl ?_); (try (refine gate_guard (by rfl) ?_; dsimp only)); refine box_event ?hg (N := 4) ?hd (cs := #[.string a1_0, .slice A1_1 l1_1.length c1_1, .slice A1_2 l1_2.length c1_2, .slice A1_3 l1_3.length c1_3, .slice A1_4 l1_4.length c1_4]) (t := 27) ?hr ?_; (case hd => rfl); (case hg => rfl); (case hr => first | (go_simp; done) | (go_simp; rfl)); intro gb118 hg w24 hbox hb; have n0_ := aM (below_step (bB HB.out) hb); have n1_ := aM (hbox); have n2_ := aM ((by rw [hg]; exact (below_size (bB HB.out)) : w.heap.size ≤ gb118)); have n3_ := aM ((by rw [hg]; exact (below_size (bB HB.out)) : w.heap.size ≤ gb118)); clear HB; have HB := n0_; have BK118 := n1_; have GW118 := n2_; have GE118 := n3_; clear n0_ n1_ n2_ n3_; clear hb hbox hg; have hcz25_0 : w24.cell? ⟨gb118, 0, none⟩ = some (.string a1_0) := (blk_cell BK118.out 0).trans rfl; have hcz25_1 : w24.cell? ⟨gb118, 1, none⟩ = some (.slice A1_1 l1_1.length c1_1) := (blk_cell BK118.out 1).trans rfl; have hcz25_2 : w24.cell? ⟨gb118, 2, none⟩ = some (.slice A1_2 l1_2.length c1_2) := (blk_cell BK118.out 2).trans rfl; have hcz25_3 : w24.cell? ⟨gb118, 3, none⟩ = some (.slice A1_3 l1_3.length c1_3) := (blk_cell BK118.out 3).trans rfl; have hcz25_4 : w24.cell? ⟨gb118, 4, none⟩ = some (.slice A1_4 l1_4.length c1_4) := (blk_cell BK118.out 4).trans rfl; have hfz25_0 := blk_frozen BK118.out 0; have hfz25_1 := blk_frozen BK118.out 1; have hfz25_2 := blk_frozen BK118.out 2; have hfz25_3 := blk_frozen BK118.out 3; have hfz25_4 := blk_frozen BK118.out 4))
  repeat (go_quiet (fail); try go_wp2)
  go_ret
  exact ⟨rT, bB1 HB.out GE118.out⟩


/-! ### colorset_Shift: function 38 -/
def colorset_Shift.f (a0_0 : ByteArray) (l0_1 : List ByteArray) (a1 : Int) (a2 : Int) : Option (Int) := if a1 < 0 then (some (-1)) else (if a1 ≥ (l0_1.length : Int) then (some (-1)) else (if (l0_1.length : Int) = 0 then (none) else (some (Int.tmod (wrap64 ((Int.tmod (wrap64 (a1 + (Int.tmod a2 (l0_1.length : Int)))) (l0_1.length : Int)) + (l0_1.length : Int))) (l0_1.length : Int)))))
set_option maxHeartbeats 8000000 in
set_option maxRecDepth 100000 in
theorem colorset_Shift.calls (a0_0 : ByteArray) (A0_1 : Option Addr) (c0_1 : Nat) (l0_1 : List ByteArray) (a1 : Int) (a2 : Int) (r : Int) (w : World) (hr0_1 : Kd.C Kd.string w A0_1 l0_1.length l0_1) (hc0_1 : l0_1.length ≤ c0_1) (h : colorset_Shift.f a0_0 l0_1 a1 a2 = some r) :
  Calls Try.prog 38 #[.agg #[.string a0_0, .slice A0_1 l0_1.length c0_1], .int .i64 a1, .int .i64 a2] w fun e w' => e = .returned (.int .i64 r) ∧ Below w.heap.size w w' := by
 have hu51 := Try.underlying51; have hu9 := Try.underlying9; have hu49 := Try.underlying49; have HR0_1 := aM hr0_1; have HC0_1 := aM hc0_1; clear hr0_1 hc0_1; have HB := aM (Below.refl w.heap.size w)
 have H : (if a1 < 0 then (some (-1)) else (if a1 ≥ (l0_1.length : Int) then (some (-1)) else (if (l0_1.length : Int) = 0 then (none) else (some (Int.tmod (wrap64 ((Int.tmod (wrap64 (a1 + (Int.tmod a2 (l0_1.length : Int)))) (l0_1.length : Int)) + (l0_1.length : Int))) (l0_1.length : Int)))))) = some r := h
 clear h
 by_cases c4 : a1 < 0
 ·rw [if_pos c4] at H
  have c4b0 : decide (a1 < 0) = true := decide_eq_true c4; clear c4
  obtain rfl := Option.some.inj H
  go_enter Try.func38, Try.ntmps38
  go_wp2_with (first | ((with_reducible refine gate_dst (N := 3) rfl ?_); refine box_event ?hg (N := 3) ?hd (cs := #[.string a0_0, .slice A0_1 l0_1.length c0_1]) (t := 51) ?hr ?_; (case hd => rfl); (case hg => rfl); (case hr => first | (go_simp; done) | (go_simp; rfl)); intro gb124 hg w5 hbox hb; have n0_ := aM (below_step (bB HB.out) hb); have n1_ := aM (hbox); have n2_ := aM ((by rw [hg]; exact (below_size (bB HB.out)) : w.heap.size ≤ gb124)); have n3_ := aM ((by rw [hg]; exact (below_size (bB HB.out)) : w.heap.size ≤ gb124)); clear HB; have HB := n0_; have BK124 := n1_; have GW124 := n2_; have GE124 := n3_; clear n0_ n1_ n2_ n3_; clear hb hbox hg; have hcz6_0 : w5.cell? ⟨gb124, 0, none⟩ = some (.string a0_0) := (blk_cell BK124.out 0).trans rfl; have hcz6_1 : w5.cell? ⟨gb124, 1, none⟩ = some (.slice A0_1 l0_1.length c0_1) := (blk_cell BK124.out 1).trans rfl; have hfz6_0 := blk_frozen BK124.out 0; have hfz6_1 := blk_frozen BK124.out 1))
  go_ret
  exact ⟨rT, bB1 HB.out GE124.out⟩
 ·rw [if_neg c4] at H
  have c4b0 : decide (a1 < 0) = false := decide_eq_false c4; clear c4
  by_cases c7 : a1 ≥ (l0_1.length : Int)
  ·rw [if_pos c7] at H
   have c7b0 : decide ((l0_1.length : Int) ≤ a1) = true := decide_eq_true c7; clear c7
   obtain rfl := Option.some.inj H
   go_enter Try.func38, Try.ntmps38
   go_wp2_with (first | ((with_reducible refine gate_dst (N := 3) rfl ?_); refine box_event ?hg (N := 3) ?hd (cs := #[.string a0_0, .slice A0_1 l0_1.length c0_1]) (t := 51) ?hr ?_; (case hd => rfl); (case hg => rfl); (case hr => first | (go_simp; done) | (go_simp; rfl)); intro gb124 hg w8 hbox hb; have n0_ := aM (below_step (bB HB.out) hb); have n1_ := aM (hbox); have n2_ := aM ((by rw [hg]; exact (below_size (bB HB.out)) : w.heap.size ≤ gb124)); have n3_ := aM ((by rw [hg]; exact (below_size (bB HB.out)) : w.heap.size ≤ gb124)); clear HB; have HB := n0_; have BK124 := n1_; have GW124 := n2_; have GE124 := n3_; clear n0_ n1_ n2_ n3_; clear hb hbox hg; have hcz9_0 : w8.cell? ⟨gb124, 0, none⟩ = some (.string a0_0) := (blk_cell BK124.out 0).trans rfl; have hcz9_1 : w8.cell? ⟨gb124, 1, none⟩ = some (.slice A0_1 l0_1.length c0_1) := (blk_cell BK124.out 1).trans rfl; have hfz9_0 := blk_frozen BK124.out 0; have hfz9_1 := blk_frozen BK124.out 1))
   go_ret
   exact ⟨rT, bB1 HB.out GE124.out⟩
  ·rw [if_neg c7] at H
   have c7b0 : decide ((l0_1.length : Int) ≤ a1) = false := decide_eq_false c7; clear c7
   by_cases c10 : (l0_1.length : Int) = 0
   ·rw [if_pos c10] at H
    exact absurd H (by simp)
   ·rw [if_neg c10] at H
    have c10b0 : ((l0_1.length : Int) == 0) = false := beq_eq_false_iff_ne.mpr c10; have c10b1 : ((l0_1.length : Int) != 0) = true := bne_iff_ne.mpr c10
    have c10b2 : ¬ (l0_1 = []) := fun h_ => c10 (by rw [h_]; rfl)
    obtain rfl := Option.some.inj H
    go_enter Try.func38, Try.ntmps38
    go_wp2_with (first | ((with_reducible refine gate_dst (N := 3) rfl ?_); refine box_event ?hg (N := 3) ?hd (cs := #[.string a0_0, .slice A0_1 l0_1.length c0_1]) (t := 51) ?hr ?_; (case hd => rfl); (case hg => rfl); (case hr => first | (go_simp; done) | (go_simp; rfl)); intro gb124 hg w11 hbox hb; have n0_ := aM (below_step (bB HB.out) hb); have n1_ := aM (hbox); have n2_ := aM ((by rw [hg]; exact (below_size (bB HB.out)) : w.heap.size ≤ gb124)); have n3_ := aM ((by rw [hg]; exact (below_size (bB HB.out)) : w.heap.size ≤ gb124)); clear HB; have HB := n0_; have BK124 := n1_; have GW124 := n2_; have GE124 := n3_; clear n0_ n1_ n2_ n3_; clear hb hbox hg; have hcz12_0 : w11.cell? ⟨gb124, 0, none⟩ = some (.string a0_0) := (blk_cell BK124.out 0).trans rfl; have hcz12_1 : w11.cell? ⟨gb124, 1, none⟩ = some (.slice A0_1 l0_1.length c0_1) := (blk_cell BK124.out 1).trans rfl; have hfz12_0 := blk_frozen BK124.out 0; have hfz12_1 := blk_frozen BK124.out 1))
    go_ret
    exact ⟨rT, bB1 HB.out GE124.out⟩




section
-- STUBBED 39
/-! ### slices_Max_int_int: function 39: by hand -/
def maxGo (m : Int) (l : List Int) : Int := l.foldl mx m
def slices_Max_int_int.f (l0 : List Int) : Option Int := if 1 ≤ l0.length ∧ l0.length ≤ 1000 then some (maxGo (rd l0 0) (l0.drop 1)) else none
set_option maxHeartbeats 16000000 in
set_option maxRecDepth 100000 in
theorem slices_Max_int_int.calls (A0 : Option Addr) (c0 : Nat) (l0 : List Int) (r : Int) (w : World) (hr0 : Kd.C (Kd.int .i64) w A0 l0.length l0) (hc0 : l0.length ≤ c0) (h : slices_Max_int_int.f l0 = some r) :
  Calls Try.prog 39 #[.slice A0 l0.length c0] w fun e w' => e = .returned (.int .i64 r) ∧ Drawn0 w w' := by
 have HR := Aside0.mk hr0
 clear hr0 hc0
 unfold slices_Max_int_int.f at h
 by_cases hle : 1 ≤ l0.length ∧ l0.length ≤ 1000
 ·rw [if_pos hle, Option.some.injEq] at h
  obtain ⟨h1, h2⟩ := hle
  have HH := Aside0.mk h
  obtain ⟨ad, e, hx⟩ := Kd.at_int HR.out 0 (by omega) (by omega)
  cases e
  have q1 : decide ((l0.length : Int) < 1) = false := decide_eq_false (by omega)
  have p1 : ((0 : Int) < (l0.length : Int)) = True := eq_true (by omega)
  rw [show ad.add (0 : Int).toNat = ad by simp [Addr.add]] at hx
  clear h
  go_enter Try.func39, Try.ntmps39
  go_wp2
  go_loopw [3, 4] (fun v3 v4 wr => ∃ (i : Nat) (m : Int), v3 = .int .i64 m ∧ v4 = .int .i64 (i : Int) ∧ 1 ≤ i ∧ i ≤ l0.length ∧ Aside0 (maxGo m (l0.drop i) = r) ∧ Drawn0 w wr) (fun _ v4 _ => l0.length + 1 - (intOf v4).toNat)
  case atStart => exact ⟨1, rd l0 0, rfl, rfl, Nat.le_refl _, h1, HH, by first | exact Drawn0.refl _ | (repeat (first | exact Drawn0.refl _ | apply Drawn0.step))⟩
  case round =>
   clear HH hx q1 p1
   obtain ⟨i, m, rfl, rfl, hi1, hi, HH, ⟨dn, rfl⟩⟩ := hrel
   by_cases hil : i < l0.length
   ·have H := HH.out
    obtain ⟨ad2, e2, hx⟩ := Kd.at_int HR.out (i : Int) (by omega) (by omega)
    obtain rfl : ad = ad2 := by injection e2
    obtain ⟨x, ex⟩ : ∃ x, x = l0[i] := ⟨_, rfl⟩
    rw [show rd l0 (i : Int) = x by rw [ex]; simp [rd, hil], Int.toNat_natCast] at hx
    rw [List.drop_eq_getElem_cons hil, ← ex, maxGo, List.foldl_cons] at H
    have HH2 := Aside0.mk (show maxGo (mx m x) (l0.drop (i + 1)) = r from H)
    have hp0 : (0 ≤ (i : Int)) = True := eq_true (by omega)
    have hp1 : ((i : Int) < (l0.length : Int)) = True := eq_true (by omega)
    have hp2 : decide ((i : Int) < (l0.length : Int)) = true := decide_eq_true (by omega)
    have HW := Aside0.mk (show wrap64 ((i : Int) + 1) = ((i + 1 : Nat) : Int) by unfold wrap64; omega)
    clear ex e2 H
    go_wp2
    go_roundw
    case rel => exact ⟨i + 1, mx m x, rfl, rfl, by omega, by omega, HH2, ⟨_, rfl⟩⟩
    case measure => simp [intOf]; omega
   ·obtain rfl : i = l0.length := by omega
    have H := HH.out
    rw [List.drop_length, maxGo, List.foldl_nil] at H
    subst H
    have hp2 : decide ((l0.length : Int) < (l0.length : Int)) = false := decide_eq_false (by omega)
    clear HH
    go_wp2
    go_ret
    exact ⟨rfl, _, rfl⟩
 ·rw [if_neg hle] at h
  cases h


end



end Go.Proofs.Ytapkjfnfkalibaa.Pr
