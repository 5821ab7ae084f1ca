/- Functions that the statement reaches: what each answers, and that the program answers it (written by a program of this work). -/
import Derived.Test.YtaphehdbjbogaaaProg
import Derived.Below
import Derived.Deep.Draws
import Derived.Deep.AppendLies
import Derived.Maps.AppendAt
import Derived.OwnWalk
import Derived.Laws.BytesArg
import Derived.Laws.MakeOwn
import Derived.Laws.OwnMore
import Derived.Deep.OwnRows
import Derived.Tactics
import Derived.Lib.ConvBytes
import Derived.Laws.Slices
import Derived.WalkKit
import Derived.KernelRfl
import Derived.RowKit3
import Derived.Deep.LoopGhost
import Derived.Deep.QuietTactic
import Derived.BigQuiet
import Derived.WideLaws
import Derived.Deep.DeepCutAuto
import Derived.Deep.CutBlock
import Derived.Deep.RegionHeld3
import Derived.Laws.Rows
import Derived.Lib.AppendStr
import Derived.ArgAppend
import Derived.Laws.IdiomCopy
import Derived.OrdersHeld
import Derived.Laws.BitsLemmas
import Derived.RowKit
import Derived.WalkMore
import Derived.Test.YtaphehdbjbogaaaVSiphonStays
import Derived.Test.YtaphehdbjbogaaaBSiphonStays
import Derived.LoopTactic
import Derived.BigGuardPart
namespace Go.Proofs.Ytaphehdbjbogaaa.Pr
open Go.RowKit Go.Proofs.YtaphehdbjbogaaaW.PrintWords Go.Proofs.YtaphehdbjbogaaaW.PrintLast Go.Proofs.YtaphehdbjbogaaaW.PrintMore
attribute [local go_sem] Instr.field asAgg
attribute [local go_sem] max2_int min2_int max_two min_two max_three min_three max_four min_four   -- for this text's walks alone
set_option linter.unusedVariables false
set_option linter.unusedSimpArgs false



def errW : Option Int → Value
 | none => .nilIface
 | some c => .iface 0 (.int .i64 c)
theorem errW_none : errW none = .nilIface := rfl
theorem errW_some (c : Int) : errW (some c) = .iface 0 (.int .i64 c) := rfl

theorem info3 : (Try.prog.info? 3).map (fun i => (i.zero, i.size, i.bytes)) = some (some (.int .i64 0), 1, 8) := by kernel_rfl
theorem info9 : (Try.prog.info? 9).map (fun i => (i.zero, i.size, i.bytes)) = some (some (.string ⟨#[]⟩), 1, 16) := by kernel_rfl
theorem info26 : (Try.prog.info? 26).map (fun i => (i.zero, i.size, i.bytes)) = some (some (.int .u64 0), 1, 8) := by kernel_rfl
theorem info38 : (Try.prog.info? 38).map (fun i => (i.zero, i.size, i.bytes)) = some (some (.slice none 0 0), 1, 24) := by kernel_rfl
theorem info40 : (Try.prog.info? 40).map (fun i => (i.zero, i.size, i.bytes)) = some (some (.agg #[(.string ⟨#[]⟩), (.slice none 0 0), (.slice none 0 0), (.slice none 0 0), (.int .i64 0)]), 5, 96) := by kernel_rfl
theorem info56 : (Try.prog.info? 56).map (fun i => (i.zero, i.size, i.bytes)) = some (some (.agg #[(.string ⟨#[]⟩), (.int .i64 0), (.int .i64 0)]), 3, 32) := by kernel_rfl
theorem info58 : (Try.prog.info? 58).map (fun i => (i.zero, i.size, i.bytes)) = some (some (.agg #[(.int .i64 0), (.int .i64 0)]), 2, 16) := by kernel_rfl
-- the values' own types
/-! #### struct type 56 -/
structure S56 where
 f0 : ByteArray
 f1 : Int
 f2 : Int
def z56 : S56 := ⟨(⟨#[]⟩ : ByteArray), (0 : Int), (0 : Int)⟩
def k56 : Kd S56 := Kd.iso (Kd.pair Kd.string (Kd.pair (Kd.int .i64) (Kd.int .i64))) (fun x : S56 => (x.f0, x.f1, x.f2))
theorem k56_open {w : World} {x : S56} {cs : List Value} (h : k56.K w x cs) : cs = [.string x.f0, .int .i64 x.f1, .int .i64 x.f2] := by
 obtain ⟨_, _, rfl, rfl, ⟨_, _, rfl, rfl, rfl⟩⟩ := h
 exact rfl
theorem k56_openM {w : World} {base : Nat} {ok : Nat → Prop} {x : S56} {cs : List Value} (h : k56.M w base ok x cs) : cs = [.string x.f0, .int .i64 x.f1, .int .i64 x.f2] := by
 obtain ⟨_, _, rfl, rfl, ⟨_, _, rfl, rfl, rfl⟩⟩ := h
 exact rfl
theorem k56_mk (w : World) (x : S56)  : k56.K w x [.string x.f0, .int .i64 x.f1, .int .i64 x.f2] := ⟨[.string x.f0], [.int .i64 x.f1, .int .i64 x.f2], rfl, rfl, ⟨[.int .i64 x.f1], [.int .i64 x.f2], rfl, rfl, rfl⟩⟩
theorem k56_mkM (w : World) (base : Nat) (ok : Nat → Prop) (x : S56)  : k56.M w base ok x [.string x.f0, .int .i64 x.f1, .int .i64 x.f2] := ⟨[.string x.f0], [.int .i64 x.f1, .int .i64 x.f2], rfl, rfl, ⟨[.int .i64 x.f1], [.int .i64 x.f2], rfl, rfl, rfl⟩⟩
theorem k56_mkF (W : World) (ok : Nat → Prop) (x : S56) : Kd.FK k56 W ok x [.string x.f0, .int .i64 x.f1, .int .i64 x.f2] := fun W2 _ => k56_mk W2 x
def rd_T56 (xs : List S56) (i : Int) : S56 := xs.getD i.toNat z56
theorem at_T56 {w : World} {A : Option Addr} {n : Nat} {xs : List S56} (h : Kd.C k56 w A n xs) (i : Int) (h0 : 0 ≤ i) (h1 : i < n) : ∃ ad , A = some ad ∧ w.cell? (ad.add (i.toNat * 3)) = some (.string (rd_T56 xs i).f0) ∧ w.cell? ⟨(ad.add (i.toNat * 3)).block, (ad.add (i.toNat * 3)).off + 1, none⟩ = some (.int .i64 (rd_T56 xs i).f1) ∧ w.cell? ⟨(ad.add (i.toNat * 3)).block, (ad.add (i.toNat * 3)).off + 2, none⟩ = some (.int .i64 (rd_T56 xs i).f2) := by
 obtain ⟨ad, c, e, _, hK, hc0⟩ := Kd.C_get h z56 i h0 h1
 have hc : ∀ j u, c[j]? = some u → w.cell? (ad.add (i.toNat * 3 + j)) = some u := hc0
 obtain rfl := k56_open hK
 exact ⟨ad, e, hc 0 _ rfl, by rw [← add_field _ _ 1 (by omega)]; exact hc 1 _ rfl, by rw [← add_field _ _ 2 (by omega)]; exact hc 2 _ rfl⟩

def rd_L3 (xs : List (List S56)) (i : Int) : (List S56) := xs.getD i.toNat ([] : List S56)
theorem at_L3 {w : World} {A : Option Addr} {n : Nat} {xs : List (List S56)} (h : Kd.C (Kd.slice 56 k56) w A n xs) (i : Int) (h0 : 0 ≤ i) (h1 : i < n) : ∃ ad A0 c0, A = some ad ∧ w.cell? (ad.add i.toNat) = some (.slice A0 (rd_L3 xs i).length c0) ∧ (rd_L3 xs i).length ≤ c0 ∧ k56.C w A0 (rd_L3 xs i).length (rd_L3 xs i) := by
 obtain ⟨ad, c, e, _, hK, hc0⟩ := Kd.C_get h ([] : List S56) i h0 h1
 have hc : ∀ j u, c[j]? = some u → w.cell? (ad.add (i.toNat * 1 + j)) = some u := hc0
 obtain ⟨A0, c0, rfl, l0, g0⟩ := hK
 exact ⟨ad, A0, c0, e, by have hq := hc 0 _ rfl; rwa [Nat.mul_one, Nat.add_zero] at hq, l0, g0⟩

/-! #### struct type 58 -/
structure S58 where
 f0 : Int
 f1 : Int
def z58 : S58 := ⟨(0 : Int), (0 : Int)⟩
def k58 : Kd S58 := Kd.iso (Kd.pair (Kd.int .i64) (Kd.int .i64)) (fun x : S58 => (x.f0, x.f1))
theorem k58_open {w : World} {x : S58} {cs : List Value} (h : k58.K w x cs) : cs = [.int .i64 x.f0, .int .i64 x.f1] := by
 obtain ⟨_, _, rfl, rfl, rfl⟩ := h
 exact rfl
theorem k58_openM {w : World} {base : Nat} {ok : Nat → Prop} {x : S58} {cs : List Value} (h : k58.M w base ok x cs) : cs = [.int .i64 x.f0, .int .i64 x.f1] := by
 obtain ⟨_, _, rfl, rfl, rfl⟩ := h
 exact rfl
theorem k58_mk (w : World) (x : S58)  : k58.K w x [.int .i64 x.f0, .int .i64 x.f1] := ⟨[.int .i64 x.f0], [.int .i64 x.f1], rfl, rfl, rfl⟩
theorem k58_mkM (w : World) (base : Nat) (ok : Nat → Prop) (x : S58)  : k58.M w base ok x [.int .i64 x.f0, .int .i64 x.f1] := ⟨[.int .i64 x.f0], [.int .i64 x.f1], rfl, rfl, rfl⟩
theorem k58_mkF (W : World) (ok : Nat → Prop) (x : S58) : Kd.FK k58 W ok x [.int .i64 x.f0, .int .i64 x.f1] := fun W2 _ => k58_mk W2 x
def rd_T58 (xs : List S58) (i : Int) : S58 := xs.getD i.toNat z58
theorem at_T58 {w : World} {A : Option Addr} {n : Nat} {xs : List S58} (h : Kd.C k58 w A n xs) (i : Int) (h0 : 0 ≤ i) (h1 : i < n) : ∃ ad , A = some ad ∧ w.cell? (ad.add (i.toNat * 2)) = some (.int .i64 (rd_T58 xs i).f0) ∧ w.cell? ⟨(ad.add (i.toNat * 2)).block, (ad.add (i.toNat * 2)).off + 1, none⟩ = some (.int .i64 (rd_T58 xs i).f1) := by
 obtain ⟨ad, c, e, _, hK, hc0⟩ := Kd.C_get h z58 i h0 h1
 have hc : ∀ j u, c[j]? = some u → w.cell? (ad.add (i.toNat * 2 + j)) = some u := hc0
 obtain rfl := k58_open hK
 exact ⟨ad, e, hc 0 _ rfl, by rw [← add_field _ _ 1 (by omega)]; exact hc 1 _ rfl⟩

def rd_L5 (xs : List (List S58)) (i : Int) : (List S58) := xs.getD i.toNat ([] : List S58)
theorem at_L5 {w : World} {A : Option Addr} {n : Nat} {xs : List (List S58)} (h : Kd.C (Kd.slice 58 k58) w A n xs) (i : Int) (h0 : 0 ≤ i) (h1 : i < n) : ∃ ad A0 c0, A = some ad ∧ w.cell? (ad.add i.toNat) = some (.slice A0 (rd_L5 xs i).length c0) ∧ (rd_L5 xs i).length ≤ c0 ∧ k58.C w A0 (rd_L5 xs i).length (rd_L5 xs i) := by
 obtain ⟨ad, c, e, _, hK, hc0⟩ := Kd.C_get h ([] : List S58) i h0 h1
 have hc : ∀ j u, c[j]? = some u → w.cell? (ad.add (i.toNat * 1 + j)) = some u := hc0
 obtain ⟨A0, c0, rfl, l0, g0⟩ := hK
 exact ⟨ad, A0, c0, e, by have hq := hc 0 _ rfl; rwa [Nat.mul_one, Nat.add_zero] at hq, l0, g0⟩

/-! #### struct type 40 -/
structure S40 where
 f0 : ByteArray
 f1 : (List S58)
 f2 : (List S58)
 f3 : (List S58)
 f4 : Int
def z40 : S40 := ⟨(⟨#[]⟩ : ByteArray), ([] : List S58), ([] : List S58), ([] : List S58), (0 : Int)⟩
def k40 : Kd S40 := Kd.iso (Kd.pair Kd.string (Kd.pair (Kd.slice 58 k58) (Kd.pair (Kd.slice 58 k58) (Kd.pair (Kd.slice 58 k58) (Kd.int .i64))))) (fun x : S40 => (x.f0, x.f1, x.f2, x.f3, x.f4))
theorem k40_open {w : World} {x : S40} {cs : List Value} (h : k40.K w x cs) : ∃ A1 c1 A2 c2 A3 c3, cs = [.string x.f0, .slice A1 x.f1.length c1, .slice A2 x.f2.length c2, .slice A3 x.f3.length c3, .int .i64 x.f4] ∧ x.f1.length ≤ c1 ∧ k58.C w A1 x.f1.length x.f1 ∧ x.f2.length ≤ c2 ∧ k58.C w A2 x.f2.length x.f2 ∧ x.f3.length ≤ c3 ∧ k58.C w A3 x.f3.length x.f3 := by
 obtain ⟨_, _, rfl, rfl, ⟨_, _, rfl, ⟨A1, c1, rfl, l1, g1⟩, ⟨_, _, rfl, ⟨A2, c2, rfl, l2, g2⟩, ⟨_, _, rfl, ⟨A3, c3, rfl, l3, g3⟩, rfl⟩⟩⟩⟩ := h
 exact ⟨A1, c1, A2, c2, A3, c3, rfl, l1, g1, l2, g2, l3, g3⟩
theorem k40_openM {w : World} {base : Nat} {ok : Nat → Prop} {x : S40} {cs : List Value} (h : k40.M w base ok x cs) : ∃ v1 v2 v3, cs = [.string x.f0, v1, v2, v3, .int .i64 x.f4] ∧ k58.R 58 w base ok v1 x.f1 ∧ k58.R 58 w base ok v2 x.f2 ∧ k58.R 58 w base ok v3 x.f3 := by
 obtain ⟨_, _, rfl, rfl, ⟨_, _, rfl, ⟨v1, rfl, g1⟩, ⟨_, _, rfl, ⟨v2, rfl, g2⟩, ⟨_, _, rfl, ⟨v3, rfl, g3⟩, rfl⟩⟩⟩⟩ := h
 exact ⟨v1, v2, v3, rfl, g1, g2, g3⟩
theorem k40_mk (w : World) (x : S40) {A1 : Option Addr} {c1 : Nat} (l1 : x.f1.length ≤ c1) (g1 : k58.C w A1 x.f1.length x.f1) {A2 : Option Addr} {c2 : Nat} (l2 : x.f2.length ≤ c2) (g2 : k58.C w A2 x.f2.length x.f2) {A3 : Option Addr} {c3 : Nat} (l3 : x.f3.length ≤ c3) (g3 : k58.C w A3 x.f3.length x.f3) : k40.K w x [.string x.f0, .slice A1 x.f1.length c1, .slice A2 x.f2.length c2, .slice A3 x.f3.length c3, .int .i64 x.f4] := ⟨[.string x.f0], [.slice A1 x.f1.length c1, .slice A2 x.f2.length c2, .slice A3 x.f3.length c3, .int .i64 x.f4], rfl, rfl, ⟨[.slice A1 x.f1.length c1], [.slice A2 x.f2.length c2, .slice A3 x.f3.length c3, .int .i64 x.f4], rfl, ⟨A1, c1, rfl, l1, g1⟩, ⟨[.slice A2 x.f2.length c2], [.slice A3 x.f3.length c3, .int .i64 x.f4], rfl, ⟨A2, c2, rfl, l2, g2⟩, ⟨[.slice A3 x.f3.length c3], [.int .i64 x.f4], rfl, ⟨A3, c3, rfl, l3, g3⟩, rfl⟩⟩⟩⟩
theorem k40_mkM (w : World) (base : Nat) (ok : Nat → Prop) (x : S40) {v1 : Value} (g1 : k58.R 58 w base ok v1 x.f1) {v2 : Value} (g2 : k58.R 58 w base ok v2 x.f2) {v3 : Value} (g3 : k58.R 58 w base ok v3 x.f3) : k40.M w base ok x [.string x.f0, v1, v2, v3, .int .i64 x.f4] := ⟨[.string x.f0], [v1, v2, v3, .int .i64 x.f4], rfl, rfl, ⟨[v1], [v2, v3, .int .i64 x.f4], rfl, ⟨v1, rfl, g1⟩, ⟨[v2], [v3, .int .i64 x.f4], rfl, ⟨v2, rfl, g2⟩, ⟨[v3], [.int .i64 x.f4], rfl, ⟨v3, rfl, g3⟩, rfl⟩⟩⟩⟩
theorem k40_openF {W : World} {ok : Nat → Prop} {x : S40} {cs : List Value} (h : Kd.FK k40 W ok x cs) : ∃ A1 c1 A2 c2 A3 c3, cs = [.string x.f0, .slice A1 x.f1.length c1, .slice A2 x.f2.length c2, .slice A3 x.f3.length c3, .int .i64 x.f4] ∧ x.f1.length ≤ c1 ∧ Kd.F k58 W ok A1 x.f1.length x.f1 ∧ x.f2.length ≤ c2 ∧ Kd.F k58 W ok A2 x.f2.length x.f2 ∧ x.f3.length ≤ c3 ∧ Kd.F k58 W ok A3 x.f3.length x.f3 := by
 obtain ⟨A1, c1, A2, c2, A3, c3, rfl, l1, _, l2, _, l3, _⟩ := k40_open (Kd.FK_now h)
 exact ⟨A1, c1, A2, c2, A3, c3, rfl, l1, (fun W' hW => by obtain ⟨A1_, c1_, A2_, c2_, A3_, c3_, he, l1_, g1_, l2_, g2_, l3_, g3_⟩ := k40_open (h W' hW); injection (Option.some.inj (show some (Value.slice A1 x.f1.length c1) = some (Value.slice A1_ x.f1.length c1_) from congrArg (fun l => l[1]?) he)) with ha_ _ _; rw [ha_]; exact g1_), l2, (fun W' hW => by obtain ⟨A1_, c1_, A2_, c2_, A3_, c3_, he, l1_, g1_, l2_, g2_, l3_, g3_⟩ := k40_open (h W' hW); injection (Option.some.inj (show some (Value.slice A2 x.f2.length c2) = some (Value.slice A2_ x.f2.length c2_) from congrArg (fun l => l[2]?) he)) with ha_ _ _; rw [ha_]; exact g2_), l3, (fun W' hW => by obtain ⟨A1_, c1_, A2_, c2_, A3_, c3_, he, l1_, g1_, l2_, g2_, l3_, g3_⟩ := k40_open (h W' hW); injection (Option.some.inj (show some (Value.slice A3 x.f3.length c3) = some (Value.slice A3_ x.f3.length c3_) from congrArg (fun l => l[3]?) he)) with ha_ _ _; rw [ha_]; exact g3_)⟩
theorem k40_mkF (W : World) (ok : Nat → Prop) (x : S40) {A1 : Option Addr} {c1 : Nat} (l1 : x.f1.length ≤ c1) (g1 : Kd.F k58 W ok A1 x.f1.length x.f1) {A2 : Option Addr} {c2 : Nat} (l2 : x.f2.length ≤ c2) (g2 : Kd.F k58 W ok A2 x.f2.length x.f2) {A3 : Option Addr} {c3 : Nat} (l3 : x.f3.length ≤ c3) (g3 : Kd.F k58 W ok A3 x.f3.length x.f3) : Kd.FK k40 W ok x [.string x.f0, .slice A1 x.f1.length c1, .slice A2 x.f2.length c2, .slice A3 x.f3.length c3, .int .i64 x.f4] := fun W2 hW => k40_mk W2 x l1 (g1 W2 hW) l2 (g2 W2 hW) l3 (g3 W2 hW)
def rd_T40 (xs : List S40) (i : Int) : S40 := xs.getD i.toNat z40
theorem at_T40 {w : World} {A : Option Addr} {n : Nat} {xs : List S40} (h : Kd.C k40 w A n xs) (i : Int) (h0 : 0 ≤ i) (h1 : i < n) : ∃ ad A1 c1 A2 c2 A3 c3, A = some ad ∧ w.cell? (ad.add (i.toNat * 5)) = some (.string (rd_T40 xs i).f0) ∧ w.cell? ⟨(ad.add (i.toNat * 5)).block, (ad.add (i.toNat * 5)).off + 1, none⟩ = some (.slice A1 (rd_T40 xs i).f1.length c1) ∧ w.cell? ⟨(ad.add (i.toNat * 5)).block, (ad.add (i.toNat * 5)).off + 2, none⟩ = some (.slice A2 (rd_T40 xs i).f2.length c2) ∧ w.cell? ⟨(ad.add (i.toNat * 5)).block, (ad.add (i.toNat * 5)).off + 3, none⟩ = some (.slice A3 (rd_T40 xs i).f3.length c3) ∧ w.cell? ⟨(ad.add (i.toNat * 5)).block, (ad.add (i.toNat * 5)).off + 4, none⟩ = some (.int .i64 (rd_T40 xs i).f4) ∧ (rd_T40 xs i).f1.length ≤ c1 ∧ k58.C w A1 (rd_T40 xs i).f1.length (rd_T40 xs i).f1 ∧ (rd_T40 xs i).f2.length ≤ c2 ∧ k58.C w A2 (rd_T40 xs i).f2.length (rd_T40 xs i).f2 ∧ (rd_T40 xs i).f3.length ≤ c3 ∧ k58.C w A3 (rd_T40 xs i).f3.length (rd_T40 xs i).f3 := by
 obtain ⟨ad, c, e, _, hK, hc0⟩ := Kd.C_get h z40 i h0 h1
 have hc : ∀ j u, c[j]? = some u → w.cell? (ad.add (i.toNat * 5 + j)) = some u := hc0
 obtain ⟨A1, c1, A2, c2, A3, c3, rfl, l1, g1, l2, g2, l3, g3⟩ := k40_open hK
 exact ⟨ad, A1, c1, A2, c2, A3, c3, e, hc 0 _ rfl, by rw [← add_field _ _ 1 (by omega)]; exact hc 1 _ rfl, by rw [← add_field _ _ 2 (by omega)]; exact hc 2 _ rfl, by rw [← add_field _ _ 3 (by omega)]; exact hc 3 _ rfl, by rw [← add_field _ _ 4 (by omega)]; exact hc 4 _ rfl, l1, g1, l2, g2, l3, g3⟩

def rd_L7 (xs : List (List S40)) (i : Int) : (List S40) := xs.getD i.toNat ([] : List S40)
theorem at_L7 {w : World} {A : Option Addr} {n : Nat} {xs : List (List S40)} (h : Kd.C (Kd.slice 40 k40) w A n xs) (i : Int) (h0 : 0 ≤ i) (h1 : i < n) : ∃ ad A0 c0, A = some ad ∧ w.cell? (ad.add i.toNat) = some (.slice A0 (rd_L7 xs i).length c0) ∧ (rd_L7 xs i).length ≤ c0 ∧ k40.C w A0 (rd_L7 xs i).length (rd_L7 xs i) := by
 obtain ⟨ad, c, e, _, hK, hc0⟩ := Kd.C_get h ([] : List S40) i h0 h1
 have hc : ∀ j u, c[j]? = some u → w.cell? (ad.add (i.toNat * 1 + j)) = some u := hc0
 obtain ⟨A0, c0, rfl, l0, g0⟩ := hK
 exact ⟨ad, A0, c0, e, by have hq := hc 0 _ rfl; rwa [Nat.mul_one, Nat.add_zero] at hq, l0, g0⟩

/-! #### struct type 25 -/
structure S25 where
 f0 : ByteArray
 f1 : (List S56)
 f2 : (List S40)
def z25 : S25 := ⟨(⟨#[]⟩ : ByteArray), ([] : List S56), ([] : List S40)⟩
def k25 : Kd S25 := Kd.iso (Kd.pair Kd.string (Kd.pair (Kd.slice 56 k56) (Kd.slice 40 k40))) (fun x : S25 => (x.f0, x.f1, x.f2))
theorem k25_open {w : World} {x : S25} {cs : List Value} (h : k25.K w x cs) : ∃ A1 c1 A2 c2, cs = [.string x.f0, .slice A1 x.f1.length c1, .slice A2 x.f2.length c2] ∧ x.f1.length ≤ c1 ∧ k56.C w A1 x.f1.length x.f1 ∧ x.f2.length ≤ c2 ∧ k40.C w A2 x.f2.length x.f2 := by
 obtain ⟨_, _, rfl, rfl, ⟨_, _, rfl, ⟨A1, c1, rfl, l1, g1⟩, ⟨A2, c2, rfl, l2, g2⟩⟩⟩ := h
 exact ⟨A1, c1, A2, c2, rfl, l1, g1, l2, g2⟩
theorem k25_openM {w : World} {base : Nat} {ok : Nat → Prop} {x : S25} {cs : List Value} (h : k25.M w base ok x cs) : ∃ v1 v2, cs = [.string x.f0, v1, v2] ∧ k56.R 56 w base ok v1 x.f1 ∧ k40.R 40 w base ok v2 x.f2 := by
 obtain ⟨_, _, rfl, rfl, ⟨_, _, rfl, ⟨v1, rfl, g1⟩, ⟨v2, rfl, g2⟩⟩⟩ := h
 exact ⟨v1, v2, rfl, g1, g2⟩
theorem k25_mk (w : World) (x : S25) {A1 : Option Addr} {c1 : Nat} (l1 : x.f1.length ≤ c1) (g1 : k56.C w A1 x.f1.length x.f1) {A2 : Option Addr} {c2 : Nat} (l2 : x.f2.length ≤ c2) (g2 : k40.C w A2 x.f2.length x.f2) : k25.K w x [.string x.f0, .slice A1 x.f1.length c1, .slice A2 x.f2.length c2] := ⟨[.string x.f0], [.slice A1 x.f1.length c1, .slice A2 x.f2.length c2], rfl, rfl, ⟨[.slice A1 x.f1.length c1], [.slice A2 x.f2.length c2], rfl, ⟨A1, c1, rfl, l1, g1⟩, ⟨A2, c2, rfl, l2, g2⟩⟩⟩
theorem k25_mkM (w : World) (base : Nat) (ok : Nat → Prop) (x : S25) {v1 : Value} (g1 : k56.R 56 w base ok v1 x.f1) {v2 : Value} (g2 : k40.R 40 w base ok v2 x.f2) : k25.M w base ok x [.string x.f0, v1, v2] := ⟨[.string x.f0], [v1, v2], rfl, rfl, ⟨[v1], [v2], rfl, ⟨v1, rfl, g1⟩, ⟨v2, rfl, g2⟩⟩⟩
theorem k25_openF {W : World} {ok : Nat → Prop} {x : S25} {cs : List Value} (h : Kd.FK k25 W ok x cs) : ∃ A1 c1 A2 c2, cs = [.string x.f0, .slice A1 x.f1.length c1, .slice A2 x.f2.length c2] ∧ x.f1.length ≤ c1 ∧ Kd.F k56 W ok A1 x.f1.length x.f1 ∧ x.f2.length ≤ c2 ∧ Kd.F k40 W ok A2 x.f2.length x.f2 := by
 obtain ⟨A1, c1, A2, c2, rfl, l1, _, l2, _⟩ := k25_open (Kd.FK_now h)
 exact ⟨A1, c1, A2, c2, rfl, l1, (fun W' hW => by obtain ⟨A1_, c1_, A2_, c2_, he, l1_, g1_, l2_, g2_⟩ := k25_open (h W' hW); injection (Option.some.inj (show some (Value.slice A1 x.f1.length c1) = some (Value.slice A1_ x.f1.length c1_) from congrArg (fun l => l[1]?) he)) with ha_ _ _; rw [ha_]; exact g1_), l2, (fun W' hW => by obtain ⟨A1_, c1_, A2_, c2_, he, l1_, g1_, l2_, g2_⟩ := k25_open (h W' hW); injection (Option.some.inj (show some (Value.slice A2 x.f2.length c2) = some (Value.slice A2_ x.f2.length c2_) from congrArg (fun l => l[2]?) he)) with ha_ _ _; rw [ha_]; exact g2_)⟩
theorem k25_mkF (W : World) (ok : Nat → Prop) (x : S25) {A1 : Option Addr} {c1 : Nat} (l1 : x.f1.length ≤ c1) (g1 : Kd.F k56 W ok A1 x.f1.length x.f1) {A2 : Option Addr} {c2 : Nat} (l2 : x.f2.length ≤ c2) (g2 : Kd.F k40 W ok A2 x.f2.length x.f2) : Kd.FK k25 W ok x [.string x.f0, .slice A1 x.f1.length c1, .slice A2 x.f2.length c2] := fun W2 hW => k25_mk W2 x l1 (g1 W2 hW) l2 (g2 W2 hW)
def rd_T25 (xs : List S25) (i : Int) : S25 := xs.getD i.toNat z25
theorem at_T25 {w : World} {A : Option Addr} {n : Nat} {xs : List S25} (h : Kd.C k25 w A n xs) (i : Int) (h0 : 0 ≤ i) (h1 : i < n) : ∃ ad A1 c1 A2 c2, A = some ad ∧ w.cell? (ad.add (i.toNat * 3)) = some (.string (rd_T25 xs i).f0) ∧ w.cell? ⟨(ad.add (i.toNat * 3)).block, (ad.add (i.toNat * 3)).off + 1, none⟩ = some (.slice A1 (rd_T25 xs i).f1.length c1) ∧ w.cell? ⟨(ad.add (i.toNat * 3)).block, (ad.add (i.toNat * 3)).off + 2, none⟩ = some (.slice A2 (rd_T25 xs i).f2.length c2) ∧ (rd_T25 xs i).f1.length ≤ c1 ∧ k56.C w A1 (rd_T25 xs i).f1.length (rd_T25 xs i).f1 ∧ (rd_T25 xs i).f2.length ≤ c2 ∧ k40.C w A2 (rd_T25 xs i).f2.length (rd_T25 xs i).f2 := by
 obtain ⟨ad, c, e, _, hK, hc0⟩ := Kd.C_get h z25 i h0 h1
 have hc : ∀ j u, c[j]? = some u → w.cell? (ad.add (i.toNat * 3 + j)) = some u := hc0
 obtain ⟨A1, c1, A2, c2, rfl, l1, g1, l2, g2⟩ := k25_open hK
 exact ⟨ad, A1, c1, A2, c2, e, hc 0 _ rfl, by rw [← add_field _ _ 1 (by omega)]; exact hc 1 _ rfl, by rw [← add_field _ _ 2 (by omega)]; exact hc 2 _ rfl, l1, g1, l2, g2⟩

/-! #### struct type 66 -/
structure S66 where
 f0 : Int
 f1 : Int
def z66 : S66 := ⟨(0 : Int), (0 : Int)⟩
def k66 : Kd S66 := Kd.iso (Kd.pair (Kd.int .i64) (Kd.int .i64)) (fun x : S66 => (x.f0, x.f1))
theorem k66_open {w : World} {x : S66} {cs : List Value} (h : k66.K w x cs) : cs = [.int .i64 x.f0, .int .i64 x.f1] := by
 obtain ⟨_, _, rfl, rfl, rfl⟩ := h
 exact rfl
theorem k66_openM {w : World} {base : Nat} {ok : Nat → Prop} {x : S66} {cs : List Value} (h : k66.M w base ok x cs) : cs = [.int .i64 x.f0, .int .i64 x.f1] := by
 obtain ⟨_, _, rfl, rfl, rfl⟩ := h
 exact rfl
theorem k66_mk (w : World) (x : S66)  : k66.K w x [.int .i64 x.f0, .int .i64 x.f1] := ⟨[.int .i64 x.f0], [.int .i64 x.f1], rfl, rfl, rfl⟩
theorem k66_mkM (w : World) (base : Nat) (ok : Nat → Prop) (x : S66)  : k66.M w base ok x [.int .i64 x.f0, .int .i64 x.f1] := ⟨[.int .i64 x.f0], [.int .i64 x.f1], rfl, rfl, rfl⟩
theorem k66_mkF (W : World) (ok : Nat → Prop) (x : S66) : Kd.FK k66 W ok x [.int .i64 x.f0, .int .i64 x.f1] := fun W2 _ => k66_mk W2 x
def rd_T66 (xs : List S66) (i : Int) : S66 := xs.getD i.toNat z66
theorem at_T66 {w : World} {A : Option Addr} {n : Nat} {xs : List S66} (h : Kd.C k66 w A n xs) (i : Int) (h0 : 0 ≤ i) (h1 : i < n) : ∃ ad , A = some ad ∧ w.cell? (ad.add (i.toNat * 2)) = some (.int .i64 (rd_T66 xs i).f0) ∧ w.cell? ⟨(ad.add (i.toNat * 2)).block, (ad.add (i.toNat * 2)).off + 1, none⟩ = some (.int .i64 (rd_T66 xs i).f1) := by
 obtain ⟨ad, c, e, _, hK, hc0⟩ := Kd.C_get h z66 i h0 h1
 have hc : ∀ j u, c[j]? = some u → w.cell? (ad.add (i.toNat * 2 + j)) = some u := hc0
 obtain rfl := k66_open hK
 exact ⟨ad, e, hc 0 _ rfl, by rw [← add_field _ _ 1 (by omega)]; exact hc 1 _ rfl⟩

def rd_L12 (xs : List (List Int)) (i : Int) : (List Int) := xs.getD i.toNat ([] : List Int)
theorem at_L12 {w : World} {A : Option Addr} {n : Nat} {xs : List (List Int)} (h : Kd.C (Kd.slice 26 (Kd.int .u64)) w A n xs) (i : Int) (h0 : 0 ≤ i) (h1 : i < n) : ∃ ad A0 c0, A = some ad ∧ w.cell? (ad.add i.toNat) = some (.slice A0 (rd_L12 xs i).length c0) ∧ (rd_L12 xs i).length ≤ c0 ∧ (Kd.int .u64).C w A0 (rd_L12 xs i).length (rd_L12 xs i) := by
 obtain ⟨ad, c, e, _, hK, hc0⟩ := Kd.C_get h ([] : List Int) i h0 h1
 have hc : ∀ j u, c[j]? = some u → w.cell? (ad.add (i.toNat * 1 + j)) = some u := hc0
 obtain ⟨A0, c0, rfl, l0, g0⟩ := hK
 exact ⟨ad, A0, c0, e, by have hq := hc 0 _ rfl; rwa [Nat.mul_one, Nat.add_zero] at hq, l0, g0⟩

def rd_L13 (xs : List (List Int)) (i : Int) : (List Int) := xs.getD i.toNat ([] : List Int)
theorem at_L13 {w : World} {A : Option Addr} {n : Nat} {xs : List (List Int)} (h : Kd.C (Kd.slice 3 (Kd.int .i64)) w A n xs) (i : Int) (h0 : 0 ≤ i) (h1 : i < n) : ∃ ad A0 c0, A = some ad ∧ w.cell? (ad.add i.toNat) = some (.slice A0 (rd_L13 xs i).length c0) ∧ (rd_L13 xs i).length ≤ c0 ∧ (Kd.int .i64).C w A0 (rd_L13 xs i).length (rd_L13 xs i) := by
 obtain ⟨ad, c, e, _, hK, hc0⟩ := Kd.C_get h ([] : List Int) i h0 h1
 have hc : ∀ j u, c[j]? = some u → w.cell? (ad.add (i.toNat * 1 + j)) = some u := hc0
 obtain ⟨A0, c0, rfl, l0, g0⟩ := hK
 exact ⟨ad, A0, c0, e, by have hq := hc 0 _ rfl; rwa [Nat.mul_one, Nat.add_zero] at hq, l0, g0⟩




section
-- STUBBED 10
/-! ### petrinetref09_Small: function 10: by hand -/
open Go.Proofs.Ytaphehdbjbogaaa.Iter
attribute [local go_sem] Instr.field asAgg

/-! The function hands back what came in, or the zero net. -/
def smallR (a0 : ByteArray) (A1 : Option Addr) (n1 c1 : Nat) (A2 : Option Addr) (n2 c2 : Nat) : Bool → Value
  | true => .tuple #[.agg #[.string a0, .slice A1 n1 c1, .slice A2 n2 c2], .bool true]
  | false => .tuple #[.agg #[.string ⟨#[]⟩, .slice none 0 0, .slice none 0 0], .bool false]
@[go_sem] theorem smallR_true (a0 : ByteArray) (A1 : Option Addr) (n1 c1 : Nat) (A2 : Option Addr) (n2 c2 : Nat) : smallR a0 A1 n1 c1 A2 n2 c2 true = .tuple #[.agg #[.string a0, .slice A1 n1 c1, .slice A2 n2 c2], .bool true] := rfl
@[go_sem] theorem smallR_false (a0 : ByteArray) (A1 : Option Addr) (n1 c1 : Nat) (A2 : Option Addr) (n2 c2 : Nat) : smallR a0 A1 n1 c1 A2 n2 c2 false = .tuple #[.agg #[.string ⟨#[]⟩, .slice none 0 0, .slice none 0 0], .bool false] := rfl
def smallP (p : S56) : Bool := decide (p.f0.size ≤ 20)
def smallT (t : S40) : Bool := decide (t.f0.size ≤ 20 ∧ t.f1.length ≤ 26 ∧ t.f2.length ≤ 26 ∧ t.f3.length ≤ 26)
def petrinetref09_Small.f (a0_0 : ByteArray) (l0_1 : List S56) (l0_2 : List S40) : Option Bool := some (decide (l0_1.length ≤ 26 ∧ l0_2.length ≤ 26 ∧ a0_0.size ≤ 20) && (l0_1.all smallP && l0_2.all smallT))

theorem two_new (w : World) (cs fs : List Value) (t t' : TypeId) : Blk ((w.alloc (.cells cs.toArray t)).alloc (.cells fs.toArray t')) w.heap.size t cs ∧ Blk ((w.alloc (.cells cs.toArray t)).alloc (.cells fs.toArray t')) (w.heap.size + 1) t' fs ∧ Below w.heap.size w ((w.alloc (.cells cs.toArray t)).alloc (.cells fs.toArray t')) ∧ ((w.alloc (.cells cs.toArray t)).alloc (.cells fs.toArray t')).heap.size = w.heap.size + 1 + 1 := by
  have x1 : Blk (w.alloc (.cells cs.toArray t)) w.heap.size t cs := World.alloc_heap_new w (.cells cs.toArray t)
  have x2 : Blk ((w.alloc (.cells cs.toArray t)).alloc (.cells fs.toArray t')) (w.heap.size + 1) t' fs := by
    have := World.alloc_heap_new (w.alloc (.cells cs.toArray t)) (.cells fs.toArray t')
    rwa [World.size_alloc] at this
  exact ⟨blk_alloc x1 _, x2, ((Below.refl _ w).alloc (Nat.le_refl _) _).alloc (by simp) _, by simp⟩
theorem cells3 {W : World} {g : Nat} {t : TypeId} {x y z : Value} (h : Blk W g t [x, y, z]) : W.cell? ⟨g, 0, none⟩ = some x ∧ W.cell? ⟨g, 1, none⟩ = some y ∧ W.cell? ⟨g, 2, none⟩ = some z ∧ W.frozen? ⟨g, 0, none⟩ = false ∧ W.frozen? ⟨g, 1, none⟩ = false ∧ W.frozen? ⟨g, 2, none⟩ = false := by
  refine ⟨?_, ?_, ?_, ?_, ?_, ?_⟩ <;> simp [World.cell?, World.frozen?, show W.heap[g]? = _ from h]
theorem put3 {W : World} {g : Nat} {t : TypeId} {x y z : Value} (h : Blk W g t [x, y, z]) (e a b : Value) : (((W.setCell ⟨g, 0, none⟩ e).setCell ⟨g, 1, none⟩ a).setCell ⟨g, 2, none⟩ b).heap[g]? = some (.cells #[e, a, b] t (0, 0)) := blk_set 2 b (blk_set 1 a (blk_set 0 e h))

theorem cells5 {W : World} {g : Nat} {t : TypeId} {x y z u v : Value} (h : Blk W g t [x, y, z, u, v]) : W.cell? ⟨g, 0, none⟩ = some x ∧ W.cell? ⟨g, 1, none⟩ = some y ∧ W.cell? ⟨g, 2, none⟩ = some z ∧ W.cell? ⟨g, 3, none⟩ = some u ∧ W.cell? ⟨g, 4, none⟩ = some v := by
  refine ⟨?_, ?_, ?_, ?_, ?_⟩ <;> simp [World.cell?, show W.heap[g]? = _ from h]

set_option maxHeartbeats 16000000 in
set_option maxRecDepth 100000 in
theorem petrinetref09_Small.calls (a0_0 : ByteArray) (A0_1 : Option Addr) (c0_1 : Nat) (l0_1 : List S56) (A0_2 : Option Addr) (c0_2 : Nat) (l0_2 : List S40) (r : Bool) (w : World) (hr0_1 : Kd.C k56 w A0_1 l0_1.length l0_1) (hc0_1 : l0_1.length ≤ c0_1) (hr0_2 : Kd.C k40 w A0_2 l0_2.length l0_2) (hc0_2 : l0_2.length ≤ c0_2) (h : petrinetref09_Small.f a0_0 l0_1 l0_2 = some r) :
    Calls Try.prog 10 #[.agg #[.string a0_0, .slice A0_1 l0_1.length c0_1, .slice A0_2 l0_2.length c0_2]] w fun e w' => e = .returned (smallR a0_0 A0_1 l0_1.length c0_1 A0_2 l0_2.length c0_2 r) ∧ Below w.heap.size w w' := by
  have HR1 := Aside0.mk hr0_1
  have HR2 := Aside0.mk hr0_2
  clear hr0_1 hc0_1 hr0_2 hc0_2
  have h := Option.some.inj h
  by_cases hbad : 26 < l0_1.length ∨ 26 < l0_2.length ∨ 20 < a0_0.size
  · rw [decide_eq_false (by omega), Bool.false_and] at h
    subst h
    have hc : ((26 : Int) < (l0_1.length : Int)) ∨ (¬ (26 : Int) < (l0_1.length : Int) ∧ (26 : Int) < (l0_2.length : Int)) ∨ (¬ (26 : Int) < (l0_1.length : Int) ∧ ¬ (26 : Int) < (l0_2.length : Int) ∧ (20 : Int) < (a0_0.size : Int)) := by omega
    clear hbad
    rcases hc with h1 | ⟨h1, h2⟩ | ⟨h1, h2, h3⟩
    all_goals
      go_enter Try.func10, Try.ntmps10
      go_wp2_with (first | ((with_reducible refine gate_dst (N := 1) rfl ?_); refine box_event ?hg (N := 1) ?hd (cs := #[.string a0_0, .slice A0_1 l0_1.length c0_1, .slice A0_2 l0_2.length c0_2]) (t := 25) ?hr ?_; (case hd => rfl); (case hg => rfl); (case hr => first | (go_simp; done) | (go_simp; rfl)); intro g1 hg1 w1 hbox1 hb1; have HS1 := Aside0.mk hbox1; have HB1 := Aside0.mk hb1; have HG1 := Aside0.mk hg1; clear hbox1 hb1 hg1) | ((with_reducible refine gate_dst (N := 2) rfl ?_); refine box_event ?hg (N := 2) ?hd (cs := #[.string ⟨#[]⟩, .slice none 0 0, .slice none 0 0]) (t := 25) ?hr ?_; (case hd => rfl); (case hg => rfl); (case hr => first | (go_simp; done) | (go_simp; rfl)); intro g2 hg2 w2 hbox2 hb2; have HF2 := Aside0.mk (show Blk w2 g2 25 [.string ⟨#[]⟩, .slice none 0 0, .slice none 0 0] from hbox2); have HS2 := Aside0.mk (show Blk w2 g1 25 [.string a0_0, .slice A0_1 l0_1.length c0_1, .slice A0_2 l0_2.length c0_2] from blk_later HS1.out hb2); obtain ⟨s0, s1, s2, _, _, _⟩ := cells3 HS2.out; obtain ⟨f0, f1, f2, f3, f4, f5⟩ := cells3 HF2.out; have HB2 := Aside0.mk (below_step HB1.out hb2); have HG2 := Aside0.mk (show w.heap.size ≤ g1 ∧ w.heap.size ≤ g2 from ⟨by rw [HG1.out]; exact Nat.le_refl _, by rw [hg2]; exact HB1.out.size⟩); have HZ2 := Aside0.mk (show g1 < w2.heap.size ∧ g2 < w2.heap.size from ⟨(Array.getElem?_eq_some_iff.1 HS2.out).1, (Array.getElem?_eq_some_iff.1 HF2.out).1⟩); clear hbox2 hb2 hg2 HS1 HB1 HG1))
      refine bodyPost_ret (results_ct rfl _ _ g2 25 #[.string ⟨#[]⟩, .slice none 0 0, .slice none 0 0] (0, 0) _ rfl (put3 HF2.out _ _ _) Try.underlying25 rfl (by kernel_rfl)) rfl ?_
      exact ⟨rfl, ((HB2.out.setCell (p := ⟨g2, 0, none⟩) HG2.out.2 _).setCell (p := ⟨g2, 1, none⟩) HG2.out.2 _).setCell (p := ⟨g2, 2, none⟩) HG2.out.2 _⟩
  · have n1 : l0_1.length ≤ 26 := by omega
    have n2 : l0_2.length ≤ 26 := by omega
    rw [decide_eq_true (by omega), Bool.true_and] at h
    have q1 : decide ((26 : Int) < (l0_1.length : Int)) = false := decide_eq_false (by omega)
    have q2 : decide ((26 : Int) < (l0_2.length : Int)) = false := decide_eq_false (by omega)
    have q3 : decide ((20 : Int) < (a0_0.size : Int)) = false := decide_eq_false (by omega)
    have HH := Aside0.mk h
    clear h hbad
    go_enter Try.func10, Try.ntmps10
    go_wp2_with (first | ((with_reducible refine gate_dst (N := 1) rfl ?_); refine box_event ?hg (N := 1) ?hd (cs := #[.string a0_0, .slice A0_1 l0_1.length c0_1, .slice A0_2 l0_2.length c0_2]) (t := 25) ?hr ?_; (case hd => rfl); (case hg => rfl); (case hr => first | (go_simp; done) | (go_simp; rfl)); intro g1 hg1 w1 hbox1 hb1; have HS1 := Aside0.mk hbox1; have HB1 := Aside0.mk hb1; have HG1 := Aside0.mk hg1; clear hbox1 hb1 hg1) | ((with_reducible refine gate_dst (N := 2) rfl ?_); refine box_event ?hg (N := 2) ?hd (cs := #[.string ⟨#[]⟩, .slice none 0 0, .slice none 0 0]) (t := 25) ?hr ?_; (case hd => rfl); (case hg => rfl); (case hr => first | (go_simp; done) | (go_simp; rfl)); intro g2 hg2 w2 hbox2 hb2; have HF2 := Aside0.mk (show Blk w2 g2 25 [.string ⟨#[]⟩, .slice none 0 0, .slice none 0 0] from hbox2); have HS2 := Aside0.mk (show Blk w2 g1 25 [.string a0_0, .slice A0_1 l0_1.length c0_1, .slice A0_2 l0_2.length c0_2] from blk_later HS1.out hb2); obtain ⟨s0, s1, s2, _, _, _⟩ := cells3 HS2.out; obtain ⟨f0, f1, f2, f3, f4, f5⟩ := cells3 HF2.out; have HB2 := Aside0.mk (below_step HB1.out hb2); have HG2 := Aside0.mk (show w.heap.size ≤ g1 ∧ w.heap.size ≤ g2 from ⟨by rw [HG1.out]; exact Nat.le_refl _, by rw [hg2]; exact HB1.out.size⟩); have HZ2 := Aside0.mk (show g1 < w2.heap.size ∧ g2 < w2.heap.size from ⟨(Array.getElem?_eq_some_iff.1 HS2.out).1, (Array.getElem?_eq_some_iff.1 HF2.out).1⟩); clear hbox2 hb2 hg2 HS1 HB1 HG1))
    clear q1 q2 q3
    go_loop [4] (fun v4 => ∃ i : Nat, v4 = .int .i64 i ∧ i ≤ l0_1.length ∧ Aside0 ((l0_1.take i).all smallP = true)) (fun v4 => l0_1.length - (intOf v4).toNat)
    case atStart => exact ⟨0, rfl, Nat.zero_le _, ⟨rfl⟩⟩
    case round =>
      obtain ⟨i, rfl, hi, HQ⟩ := hrel
      by_cases hlt : i < l0_1.length
      · obtain ⟨ad, e1, hx0, hx1, hx2⟩ := at_T56 HR1.out (i : Int) (by omega) (by omega)
        cases e1
        rw [Int.toNat_natCast] at hx0
        replace hx0 := (HB2.out.cell (World.block_lt_of_cell? w _ hx0)).trans hx0
        clear hx1 hx2
        have hrd : rd_T56 l0_1 (i : Int) = l0_1[i] := by simp [rd_T56, hlt]
        rw [hrd] at hx0
        clear hrd
        obtain ⟨p, hp⟩ : ∃ p, p = l0_1[i] := ⟨_, rfl⟩
        rw [← hp] at hx0
        by_cases hb : (20 : Int) < (p.f0.size : Int)
        · have hr : r = false := by
            rw [← HH.out, show l0_1.all smallP = false from ?_, Bool.false_and]
            rw [List.all_eq_false]
            exact ⟨p, hp ▸ List.getElem_mem hlt, by unfold smallP; simp; omega⟩
          subst hr
          clear hp
          go_wp2
          refine bodyPost_ret (results_ct rfl _ _ g2 25 #[.string ⟨#[]⟩, .slice none 0 0, .slice none 0 0] (0, 0) _ rfl (put3 HF2.out _ _ _) Try.underlying25 rfl (by kernel_rfl)) rfl ?_
          exact ⟨rfl, ((HB2.out.setCell (p := ⟨g2, 0, none⟩) HG2.out.2 _).setCell (p := ⟨g2, 1, none⟩) HG2.out.2 _).setCell (p := ⟨g2, 2, none⟩) HG2.out.2 _⟩
        · have HQ2 := Aside0.mk (show (l0_1.take (i + 1)).all smallP = true by
            rw [List.take_succ_eq_append_getElem hlt, List.all_append, HQ.out, ← hp]
            unfold smallP
            simp; omega)
          clear hp
          go_wp2
          go_round
          case rel => exact ⟨i + 1, by go_num, by omega, HQ2⟩
          case measure => simp [intOf]; omega
      · obtain rfl : i = l0_1.length := by omega
        have HH2 := Aside0.mk (show l0_2.all smallT = r by
          have e := HQ.out
          rw [List.take_length] at e
          rw [← HH.out, e, Bool.true_and])
        clear HH HQ hi hlt
        go_wp2
        clear s0 s1 s2 f0 f1 f2 f3 f4 f5
        go_loopw [5] (fun v5 wr => ∃ i : Nat, v5 = .int .i64 i ∧ i ≤ l0_2.length ∧ Aside0 ((l0_2.take i).all smallT = true) ∧ Aside0 (Blk wr g1 25 [.string a0_0, .slice A0_1 l0_1.length c0_1, .slice A0_2 l0_2.length c0_2]) ∧ Aside0 (Blk wr g2 25 [.string ⟨#[]⟩, .slice none 0 0, .slice none 0 0]) ∧ Aside0 (Below w.heap.size w wr)) (fun v5 _ => l0_2.length - (intOf v5).toNat)
        case atStart => exact ⟨0, rfl, Nat.zero_le _, ⟨rfl⟩, HS2, HF2, HB2⟩
        case round =>
          clear HS2 HF2 HB2 HZ2
          obtain ⟨i, rfl, hi, HQ, HS, HF, HB⟩ := hrel
          obtain ⟨s0, s1, s2, _, _, _⟩ := cells3 HS.out
          obtain ⟨f0, f1, f2, f3, f4, f5⟩ := cells3 HF.out
          by_cases hlt : i < l0_2.length
          · obtain ⟨ad, B1, d1, B2, d2, B3, d3, e1, hx0, hx1, hx2, hx3, hx4, _, _, _, _, _, _⟩ := at_T40 HR2.out (i : Int) (by omega) (by omega)
            cases e1
            rw [Int.toNat_natCast] at hx0 hx1 hx2 hx3 hx4
            replace hx0 := (HB.out.cell (World.block_lt_of_cell? w _ hx0)).trans hx0
            replace hx1 := (HB.out.cell (World.block_lt_of_cell? w _ hx1)).trans hx1
            replace hx2 := (HB.out.cell (World.block_lt_of_cell? w _ hx2)).trans hx2
            replace hx3 := (HB.out.cell (World.block_lt_of_cell? w _ hx3)).trans hx3
            replace hx4 := (HB.out.cell (World.block_lt_of_cell? w _ hx4)).trans hx4
            have hrd : rd_T40 l0_2 (i : Int) = l0_2[i] := by simp [rd_T40, hlt]
            rw [hrd] at hx0 hx1 hx2 hx3 hx4
            clear hrd
            obtain ⟨p, hp⟩ : ∃ p, p = l0_2[i] := ⟨_, rfl⟩
            rw [← hp] at hx0 hx1 hx2 hx3 hx4
            by_cases hb : (20 : Int) < (p.f0.size : Int) ∨ (¬ (20 : Int) < (p.f0.size : Int) ∧ (26 : Int) < (p.f1.length : Int)) ∨ (¬ (20 : Int) < (p.f0.size : Int) ∧ ¬ (26 : Int) < (p.f1.length : Int) ∧ (26 : Int) < (p.f2.length : Int)) ∨ (¬ (20 : Int) < (p.f0.size : Int) ∧ ¬ (26 : Int) < (p.f1.length : Int) ∧ ¬ (26 : Int) < (p.f2.length : Int) ∧ (26 : Int) < (p.f3.length : Int))
            · have hr : r = false := by
                rw [← HH2.out, List.all_eq_false]
                exact ⟨p, hp ▸ List.getElem_mem hlt, by unfold smallT; simp only [decide_eq_true_eq]; omega⟩
              subst hr
              clear hp
              rcases hb with b1 | ⟨b1, b2⟩ | ⟨b1, b2, b3⟩ | ⟨b1, b2, b3, b4⟩
              all_goals
                go_upto_region 12 with ((with_reducible refine gate_dst (N := 6) rfl ?_); refine box_event ?hg (N := 6) ?hd (cs := #[.string ⟨#[]⟩, .slice none 0 0, .slice none 0 0, .slice none 0 0, .int .i64 0]) (t := 40) ?hr ?_; (case hd => rfl); (case hg => rfl); (case hr => first | (go_simp; done) | (go_simp; rfl)); intro gb hgb w4 hbox hb4; have HG4 := Aside0.mk (show Blk w4 gb 40 [.string ⟨#[]⟩, .slice none 0 0, .slice none 0 0, .slice none 0 0, .int .i64 0] from hbox); have hz0 := blk_cell hbox 0; have hz1 := blk_cell hbox 1; have hz2 := blk_cell hbox 2; have hz3 := blk_cell hbox 3; have hz4 := blk_cell hbox 4; have hq0 := blk_frozen hbox 0; have hq1 := blk_frozen hbox 1; have hq2 := blk_frozen hbox 2; have hq3 := blk_frozen hbox 3; have hq4 := blk_frozen hbox 4; have HB4 := Aside0.mk hb4; have HGB := Aside0.mk hgb; clear hbox hb4 hgb)
                obtain ⟨W5, hW5⟩ : ∃ W5, ((((w4.setCell ⟨gb, 0, none⟩ (.string p.f0)).setCell ⟨gb, 1, none⟩ (.slice B1 p.f1.length d1)).setCell ⟨gb, 2, none⟩ (.slice B2 p.f2.length d2)).setCell ⟨gb, 3, none⟩ (.slice B3 p.f3.length d3)).setCell ⟨gb, 4, none⟩ (.int .i64 p.f4) = W5 := ⟨_, rfl⟩
                have hG5 : Blk W5 gb 40 [.string p.f0, .slice B1 p.f1.length d1, .slice B2 p.f2.length d2, .slice B3 p.f3.length d3, .int .i64 p.f4] := hW5 ▸ blk_set 4 _ (blk_set 3 _ (blk_set 2 _ (blk_set 1 _ (blk_set 0 _ HG4.out))))
                have hb5 : Below wr.heap.size wr W5 := by rw [← hW5]; exact ((((HB4.out.setCell (p := ⟨gb, 0, none⟩) (by rw [HGB.out]; exact Nat.le_refl _) _).setCell (p := ⟨gb, 1, none⟩) (by rw [HGB.out]; exact Nat.le_refl _) _).setCell (p := ⟨gb, 2, none⟩) (by rw [HGB.out]; exact Nat.le_refl _) _).setCell (p := ⟨gb, 3, none⟩) (by rw [HGB.out]; exact Nat.le_refl _) _).setCell (p := ⟨gb, 4, none⟩) (by rw [HGB.out]; exact Nat.le_refl _) _
                rw [hW5]
                have HS5 := Aside0.mk (blk_later HS.out hb5)
                have HF5 := Aside0.mk (blk_later HF.out hb5)
                have HB5 := Aside0.mk (below_step HB.out hb5)
                clear hW5 HG4 HB4 HGB hb5 HS HF HB hz0 hz1 hz2 hz3 hz4 hq0 hq1 hq2 hq3 hq4 hx0 hx1 hx2 hx3 hx4 s0 s1 s2 f0 f1 f2 f3 f4 f5
                obtain ⟨s0, s1, s2, _, _, _⟩ := cells3 HS5.out
                obtain ⟨f0, f1, f2, f3, f4, f5⟩ := cells3 HF5.out
                obtain ⟨k0, k1, k2, k3, k4⟩ := cells5 hG5
                clear hG5
                go_wp2
                refine bodyPost_ret (results_ct rfl _ _ g2 25 #[.string ⟨#[]⟩, .slice none 0 0, .slice none 0 0] (0, 0) _ rfl (put3 HF5.out _ _ _) Try.underlying25 rfl (by kernel_rfl)) rfl ?_
                exact ⟨rfl, ((HB5.out.setCell (p := ⟨g2, 0, none⟩) HG2.out.2 _).setCell (p := ⟨g2, 1, none⟩) HG2.out.2 _).setCell (p := ⟨g2, 2, none⟩) HG2.out.2 _⟩
            · have HQ2 := Aside0.mk (show (l0_2.take (i + 1)).all smallT = true by
                rw [List.take_succ_eq_append_getElem hlt, List.all_append, HQ.out, ← hp]
                unfold smallT
                simp only [List.all_cons, List.all_nil, Bool.and_true, Bool.true_and, decide_eq_true_eq]
                omega)
              have b1 : ¬ (20 : Int) < (p.f0.size : Int) := by omega
              have b2 : ¬ (26 : Int) < (p.f1.length : Int) := by omega
              have b3 : ¬ (26 : Int) < (p.f2.length : Int) := by omega
              have b4 : ¬ (26 : Int) < (p.f3.length : Int) := by omega
              clear hp hb
              go_upto_region 12 with ((with_reducible refine gate_dst (N := 6) rfl ?_); refine box_event ?hg (N := 6) ?hd (cs := #[.string ⟨#[]⟩, .slice none 0 0, .slice none 0 0, .slice none 0 0, .int .i64 0]) (t := 40) ?hr ?_; (case hd => rfl); (case hg => rfl); (case hr => first | (go_simp; done) | (go_simp; rfl)); intro gb hgb w4 hbox hb4; have HG4 := Aside0.mk (show Blk w4 gb 40 [.string ⟨#[]⟩, .slice none 0 0, .slice none 0 0, .slice none 0 0, .int .i64 0] from hbox); have hz0 := blk_cell hbox 0; have hz1 := blk_cell hbox 1; have hz2 := blk_cell hbox 2; have hz3 := blk_cell hbox 3; have hz4 := blk_cell hbox 4; have hq0 := blk_frozen hbox 0; have hq1 := blk_frozen hbox 1; have hq2 := blk_frozen hbox 2; have hq3 := blk_frozen hbox 3; have hq4 := blk_frozen hbox 4; have HB4 := Aside0.mk hb4; have HGB := Aside0.mk hgb; clear hbox hb4 hgb)
              obtain ⟨W5, hW5⟩ : ∃ W5, ((((w4.setCell ⟨gb, 0, none⟩ (.string p.f0)).setCell ⟨gb, 1, none⟩ (.slice B1 p.f1.length d1)).setCell ⟨gb, 2, none⟩ (.slice B2 p.f2.length d2)).setCell ⟨gb, 3, none⟩ (.slice B3 p.f3.length d3)).setCell ⟨gb, 4, none⟩ (.int .i64 p.f4) = W5 := ⟨_, rfl⟩
              have hG5 : Blk W5 gb 40 [.string p.f0, .slice B1 p.f1.length d1, .slice B2 p.f2.length d2, .slice B3 p.f3.length d3, .int .i64 p.f4] := hW5 ▸ blk_set 4 _ (blk_set 3 _ (blk_set 2 _ (blk_set 1 _ (blk_set 0 _ HG4.out))))
              have hb5 : Below wr.heap.size wr W5 := by rw [← hW5]; exact ((((HB4.out.setCell (p := ⟨gb, 0, none⟩) (by rw [HGB.out]; exact Nat.le_refl _) _).setCell (p := ⟨gb, 1, none⟩) (by rw [HGB.out]; exact Nat.le_refl _) _).setCell (p := ⟨gb, 2, none⟩) (by rw [HGB.out]; exact Nat.le_refl _) _).setCell (p := ⟨gb, 3, none⟩) (by rw [HGB.out]; exact Nat.le_refl _) _).setCell (p := ⟨gb, 4, none⟩) (by rw [HGB.out]; exact Nat.le_refl _) _
              rw [hW5]
              have HS5 := Aside0.mk (blk_later HS.out hb5)
              have HF5 := Aside0.mk (blk_later HF.out hb5)
              have HB5 := Aside0.mk (below_step HB.out hb5)
              clear hW5 HG4 HB4 HGB hb5 HS HF HB hz0 hz1 hz2 hz3 hz4 hq0 hq1 hq2 hq3 hq4 hx0 hx1 hx2 hx3 hx4 s0 s1 s2 f0 f1 f2 f3 f4 f5
              obtain ⟨s0, s1, s2, _, _, _⟩ := cells3 HS5.out
              obtain ⟨f0, f1, f2, f3, f4, f5⟩ := cells3 HF5.out
              obtain ⟨k0, k1, k2, k3, k4⟩ := cells5 hG5
              clear hG5
              go_wp2
              go_roundw
              case rel => exact ⟨i + 1, by go_num, by omega, HQ2, HS5, HF5, HB5⟩
              case measure => simp [intOf]; omega
          · obtain rfl : i = l0_2.length := by omega
            have hr : r = true := by
              have e := HQ.out
              rw [List.take_length] at e
              rw [← HH2.out, e]
            subst hr
            clear HQ hi hlt
            go_wp2
            refine bodyPost_ret (results_ct rfl _ _ g2 25 #[.string a0_0, .slice A0_1 l0_1.length c0_1, .slice A0_2 l0_2.length c0_2] (0, 0) _ rfl (put3 HF.out _ _ _) Try.underlying25 rfl (by kernel_rfl)) rfl ?_
            exact ⟨rfl, ((HB.out.setCell (p := ⟨g2, 0, none⟩) HG2.out.2 _).setCell (p := ⟨g2, 1, none⟩) HG2.out.2 _).setCell (p := ⟨g2, 2, none⟩) HG2.out.2 _⟩


end



section
-- STUBBED 70
/-! ### net_Name: function 70: by hand -/
open Go.Proofs.Ytaphehdbjbogaaa.Names

def net_Name.f (a0 : ByteArray) : Option (Bool) := some (nameB a0)

theorem name_cases (c pos : Nat) :
    (((97 : Int) ≤ c ∧ (c : Int) ≤ 122) ∨ (¬ (97 : Int) ≤ c ∧ ((c : Int) == 95) = true) ∨ (¬ (97 : Int) ≤ c ∧ ((c : Int) == 95) = false ∧ 0 < pos ∧ (48 : Int) ≤ c ∧ (c : Int) ≤ 57) ∨ (¬ (97 : Int) ≤ c ∧ ((c : Int) == 95) = false ∧ 0 < pos ∧ ¬ (48 : Int) ≤ c ∧ ((c : Int) == 46) = true)) ∧ okB pos c = true ∨
    (((97 : Int) ≤ c ∧ ¬ (c : Int) ≤ 122 ∧ ((c : Int) == 95) = false ∧ 0 < pos ∧ (48 : Int) ≤ c ∧ ¬ (c : Int) ≤ 57 ∧ ((c : Int) == 46) = false) ∨ ((97 : Int) ≤ c ∧ ¬ (c : Int) ≤ 122 ∧ ((c : Int) == 95) = false ∧ pos = 0) ∨ (¬ (97 : Int) ≤ c ∧ ((c : Int) == 95) = false ∧ pos = 0) ∨ (¬ (97 : Int) ≤ c ∧ ((c : Int) == 95) = false ∧ 0 < pos ∧ (48 : Int) ≤ c ∧ ¬ (c : Int) ≤ 57 ∧ ((c : Int) == 46) = false) ∨
      (¬ (97 : Int) ≤ c ∧ ((c : Int) == 95) = false ∧ 0 < pos ∧ ¬ (48 : Int) ≤ c ∧ ((c : Int) == 46) = false)) ∧ okB pos c = false := by
  simp only [beq_iff_eq, beq_eq_false_iff_ne]
  by_cases h : (97 ≤ c ∧ c ≤ 122) ∨ c = 95 ∨ (0 < pos ∧ ((48 ≤ c ∧ c ≤ 57) ∨ c = 46))
  · exact .inl ⟨by omega, okB_of h⟩
  · exact .inr ⟨by omega, okB_not h⟩
set_option maxHeartbeats 4000000 in
set_option maxRecDepth 100000 in
theorem net_Name.calls (a0 : ByteArray) (r : Bool) (w : World) (h : net_Name.f a0 = some r) :
    Calls Try.prog 70 #[.string a0] w fun e w' => e = .returned (.bool r) ∧ Below w.heap.size w w' := by
  have HR := Aside0.mk (show nameB a0 = r from Option.some.inj h)
  clear h
  by_cases h1 : 1 ≤ a0.size
  · by_cases h2 : a0.size ≤ 16
    · have g1 : ¬ (a0.size : Int) < 1 := by omega
      have g2 : ¬ (16 : Int) < (a0.size : Int) := by omega
      go_enter Try.func70, Try.ntmps70
      go_wp2
      go_loopw [3] (fun _ w' => ∃ pos : Nat, w' = w.iter a0 pos ∧ pos ≤ a0.size ∧ Aside0 (∀ i, i < pos → okB i (byteAt a0 i) = true)) (fun _ w' => a0.size - w'.iterPos w.heap.size)
      case atStart => exact ⟨0, rfl, Nat.zero_le _, ⟨fun i h => absurd h (Nat.not_lt_zero _)⟩⟩
      case round =>
        obtain ⟨pos, rfl, hpos, HA⟩ := hrel
        by_cases hp : pos < a0.size
        · have hnx : ∀ ty, (Instr.next (.pointer (some ⟨w.heap.size, 0, none⟩)) true ty).run Try.prog (w.iter a0 pos) = _ := fun ty => run_next_any w a0 pos ty hp
          obtain ⟨c, hc⟩ : ∃ c, c = byteAt a0 pos := ⟨_, rfl⟩
          by_cases hlo : c < 128
          · have hd := rune_low a0 pos hp (by omega)
            rw [← hc] at hd
            rw [hd] at hnx
            have HC := Aside0.mk hc
            clear hd hc
            rcases name_cases c pos with ⟨hk, hok⟩ | ⟨hk, hok⟩
            · have HOK := Aside0.mk (show ∀ i, i < pos + 1 → okB i (byteAt a0 i) = true from fun i hi => by
                by_cases e : i = pos
                · subst e; rw [← HC.out]; exact hok
                · exact HA.out i (by omega))
              clear hok
              rcases hk with ⟨k1, k2⟩ | ⟨k1, k2⟩ | ⟨k1, k2, k3, k4, k5⟩ | ⟨k1, k2, k3, k4, k5⟩
              all_goals
                go_wp2
                go_roundw
                case rel => exact ⟨pos + 1, rfl, by omega, HOK⟩
                case measure => simp; omega
            · have HR2 := Aside0.mk (show r = false from HR.out.symm.trans (nameB_false hp (by rw [← HC.out]; exact hok)))
              clear hok
              rcases hk with ⟨k1, k2, k3, k4, k5, k6, k7⟩ | ⟨k1, k2, k3, k4⟩ | ⟨k1, k2, k3⟩ | ⟨k1, k2, k3, k4, k5, k6⟩ | ⟨k1, k2, k3, k4, k5⟩
              all_goals
                first | subst k4 | subst k3 | skip
                go_wp2
                go_ret
                exact ⟨by rw [HR2.out]; rfl, below_iter _ _ _⟩
          · have hd := rune_high a0 pos hp (by omega)
            have hr : r = false := HR.out.symm.trans (nameB_false hp (by rw [← hc]; exact okB_high hlo))
            obtain ⟨u, hu⟩ : ∃ u, u = (Utf8.decode a0 pos).1 := ⟨_, rfl⟩
            rw [← hu] at hd hnx
            have HR2 := Aside0.mk hr
            have k0 : pos = 0 ∨ 0 < pos := by omega
            have k1 : (97 : Int) ≤ (u : Int) := by omega
            have k2 : ¬ (u : Int) ≤ 122 := by omega
            have k3 : ((u : Int) == 95) = false := by rw [beq_eq_false_iff_ne]; omega
            have k4 : (48 : Int) ≤ (u : Int) := by omega
            have k5 : ¬ (u : Int) ≤ 57 := by omega
            have k6 : ((u : Int) == 46) = false := by rw [beq_eq_false_iff_ne]; omega
            clear hr hu hc hlo
            rcases k0 with rfl | k0
            all_goals
              go_wp2
              go_ret
              exact ⟨by rw [HR2.out]; rfl, below_iter _ _ _⟩
        · have hnx : ∀ ty, (Instr.next (.pointer (some ⟨w.heap.size, 0, none⟩)) true ty).run Try.prog (w.iter a0 pos) = _ := fun ty => run_next_end w a0 pos ty hp
          obtain rfl : pos = a0.size := by omega
          go_wp2
          go_ret
          have hr : r = true := HR.out.symm.trans (nameB_true h1 h2 HA.out)
          exact ⟨by rw [hr]; rfl, below_iter _ _ _⟩
    · have HF := Aside0.mk (show nameB a0 = false by unfold nameB; simp [h2])
      have g1 : ¬ (a0.size : Int) < 1 := by omega
      have g2 : (16 : Int) < (a0.size : Int) := by omega
      go_enter Try.func70, Try.ntmps70
      go_wp2
      go_ret
      have hr : r = false := HR.out.symm.trans HF.out
      exact ⟨by rw [hr]; rfl, Below.refl _ _⟩
  · have HF := Aside0.mk (show nameB a0 = false by unfold nameB; simp [h1])
    have g1 : (a0.size : Int) < 1 := by omega
    go_enter Try.func70, Try.ntmps70
    go_wp2
    go_ret
    have hr : r = false := HR.out.symm.trans HF.out
    exact ⟨by rw [hr]; rfl, Below.refl _ _⟩


end


-- NOT PRINTED: function 71 (net_Check_1)


/-! ### marking_Valid: function 81 -/
def marking_Valid.l0 : Nat → List Int → Int → Int → Option (Bool)
 | 0, _, _, _ => none
 | k + 1, x11, x12, x13 => if x13 < x12 then (if 0 ≤ x13 then (if x13 < (x11.length : Int) then (if (rd x11 x13) < 0 then (some false) else (if (rd x11 x13) > 1048576 then (some false) else (marking_Valid.l0 k x11 x12 (wrap64 (x13 + 1))))) else (none)) else (none)) else (some true)
def marking_Valid.f (k : Nat) (l0 : List Int) (a1 : Int) : Option (Bool) := if (l0.length : Int) = a1 then (marking_Valid.l0 k l0 (l0.length : Int) 0) else (some false)
theorem marking_Valid.mono_l : ∀ k, (∀ y0 y1 y2, LeO (marking_Valid.l0 k y0 y1 y2) (marking_Valid.l0 (k + 1) y0 y1 y2))
 | 0 => fun _ _ _ r h => by simp [marking_Valid.l0] at h
 | k + 1 => by
  have ih0 := marking_Valid.mono_l k
  ·
   intro y0 y1 y2
   unfold marking_Valid.l0
   repeat' first
   | (with_reducible exact ih0 _ _ _)
   | (with_reducible exact LeO.refl _)
   | (with_reducible exact LeO.none _)
   | (with_reducible refine LeO.ite ?_ ?_)
   | (with_reducible refine LeO.bind ?_ (fun _ => ?_))
   | exact ih0 _ _ _
   | exact LeO.none _
   | refine LeO.ite ?_ ?_
   | refine LeO.bind ?_ (fun _ => ?_)
theorem marking_Valid.mono : ∀ a0 a1 k, LeO (marking_Valid.f k a0 a1) (marking_Valid.f (k + 1) a0 a1) := by
 intro a0 a1 k
 have ih0 := marking_Valid.mono_l k
 unfold marking_Valid.f
 repeat' first
   | (with_reducible exact ih0 _ _ _)
   | (with_reducible exact LeO.refl _)
   | (with_reducible exact LeO.none _)
   | (with_reducible refine LeO.ite ?_ ?_)
   | (with_reducible refine LeO.bind ?_ (fun _ => ?_))
   | exact ih0 _ _ _
   | exact LeO.none _
   | refine LeO.ite ?_ ?_
   | refine LeO.bind ?_ (fun _ => ?_)
set_option maxHeartbeats 8000000 in
set_option maxRecDepth 100000 in
theorem marking_Valid.calls (k : Nat) (A0 : Option Addr) (c0 : Nat) (l0 : List Int) (a1 : Int) (r : Bool) (w : World) (hr0 : Kd.C (Kd.int .i64) w A0 l0.length l0) (hc0 : l0.length ≤ c0) (h : marking_Valid.f k l0 a1 = some r) :
  Calls Try.prog 81 #[.slice A0 l0.length c0, .int .i64 a1] w fun e w' => e = .returned (.bool r) ∧ Drawn0 w w' := by
 have HR0 := Aside0.mk hr0
 have HC0 := Aside0.mk hc0
 clear hr0 hc0
 have H : (if (l0.length : Int) = a1 then (marking_Valid.l0 k l0 (l0.length : Int) 0) else (some false)) = some r := h
 clear h
 by_cases c3 : (l0.length : Int) = a1
 ·
  rw [if_pos c3] at H
  have c3b0 : ((l0.length : Int) == a1) = true := beq_iff_eq.mpr c3
  have c3b1 : ((l0.length : Int) != a1) = false := bne_eq_false_iff_eq.mpr c3
  clear c3
  have H' := Aside0.mk H
  clear H
  go_enter Try.func81, Try.ntmps81
  go_wp2
  go_loopg [13] k (fun kq v13 w' => ∃ (x13_1 : Int), v13 = .int .i64 x13_1 ∧ Aside0 (marking_Valid.l0 kq l0 (l0.length : Int) x13_1 = some r) ∧ Aside0 (kq ≤ k) ∧ Drawn0 w w')
  case atStart => exact ⟨(0), (by first | rfl | (simp; done) | (simp [*]; done) | (simp [i64_w]; done)), H', ⟨Nat.le_refl _⟩, by repeat (first | exact Drawn0.refl _ | apply Drawn0.step)⟩
  case round =>
   clear H'
   try clear p2
   try clear c3
   try clear c3b0
   try clear c3b1
   obtain ⟨x13_1, rfl, HA, HK1, ⟨m1, rfl⟩⟩ := hrel
   cases gk with
   | zero => exact absurd HA.out (by simp [marking_Valid.l0])
   | succ k1 =>
    have H := HA.out
    clear HA
    simp only [marking_Valid.l0] at H
    by_cases c4 : x13_1 < (l0.length : Int)
    ·
     rw [if_pos c4] at H
     have c4b0 : decide (x13_1 < (l0.length : Int)) = true := decide_eq_true c4
     clear c4
     by_cases c5 : 0 ≤ x13_1
     ·
      rw [if_pos c5] at H
      have c5b0 : decide (0 ≤ x13_1) = true := decide_eq_true c5
      clear c5
      by_cases c6 : x13_1 < (l0.length : Int)
      ·
       rw [if_pos c6] at H
       have c6b0 : decide (x13_1 < (l0.length : Int)) = true := decide_eq_true c6
       clear c6
       by_cases c7 : (rd l0 x13_1) < 0
       ·
        rw [if_pos c7] at H
        have c7b0 : decide ((rd l0 x13_1) < 0) = true := decide_eq_true c7
        clear c7
        obtain rfl := Option.some.inj H
        have p102 : 0 ≤ (x13_1 : Int) := of_decide_eq_true (by first | (with_reducible assumption) | assumption)
        have q102 : x13_1 < (l0.length : Int) := of_decide_eq_true (by first | (with_reducible assumption) | assumption)
        obtain ⟨ad102, e102, hx102_0⟩ := Kd.at_int HR0.out x13_1 p102 q102
        cases e102
        replace p102 := eq_true p102
        replace q102 := eq_true q102
        go_wp2
        go_ret
        exact ⟨by first | rfl | (simp; done) | (simp [*]; done), by repeat (first | exact Drawn0.refl _ | apply Drawn0.step)⟩
       ·
        rw [if_neg c7] at H
        have c7b0 : decide ((rd l0 x13_1) < 0) = false := decide_eq_false c7
        clear c7
        by_cases c8 : (rd l0 x13_1) > 1048576
        ·
         rw [if_pos c8] at H
         have c8b0 : decide (1048576 < (rd l0 x13_1)) = true := decide_eq_true c8
         clear c8
         obtain rfl := Option.some.inj H
         have p102 : 0 ≤ (x13_1 : Int) := of_decide_eq_true (by first | (with_reducible assumption) | assumption)
         have q102 : x13_1 < (l0.length : Int) := of_decide_eq_true (by first | (with_reducible assumption) | assumption)
         obtain ⟨ad102, e102, hx102_0⟩ := Kd.at_int HR0.out x13_1 p102 q102
         cases e102
         replace p102 := eq_true p102
         replace q102 := eq_true q102
         go_wp2
         go_ret
         exact ⟨by first | rfl | (simp; done) | (simp [*]; done), by repeat (first | exact Drawn0.refl _ | apply Drawn0.step)⟩
        ·
         rw [if_neg c8] at H
         have c8b0 : decide (1048576 < (rd l0 x13_1)) = false := decide_eq_false c8
         clear c8
         have H' := Aside0.mk H
         clear H
         have p102 : 0 ≤ (x13_1 : Int) := of_decide_eq_true (by first | (with_reducible assumption) | assumption)
         have q102 : x13_1 < (l0.length : Int) := of_decide_eq_true (by first | (with_reducible assumption) | assumption)
         obtain ⟨ad102, e102, hx102_0⟩ := Kd.at_int HR0.out x13_1 p102 q102
         cases e102
         replace p102 := eq_true p102
         replace q102 := eq_true q102
         go_wp2
         go_roundg k1
         case measure => have := HK1.out; omega
         case rel => exact ⟨(wrap64 (x13_1 + 1)), (by first | rfl | (simp; done) | (simp [*]; done) | (simp [i64_w]; done)), H', ⟨by have := HK1.out; omega⟩, by repeat (first | exact Drawn0.refl _ | apply Drawn0.step)⟩
      ·
       rw [if_neg c6] at H
       exact absurd H (by simp)
     ·
      rw [if_neg c5] at H
      exact absurd H (by simp)
    ·
     rw [if_neg c4] at H
     have c4b0 : decide (x13_1 < (l0.length : Int)) = false := decide_eq_false c4
     clear c4
     obtain rfl := Option.some.inj H
     go_wp2
     go_ret
     exact ⟨by first | rfl | (simp; done) | (simp [*]; done), by repeat (first | exact Drawn0.refl _ | apply Drawn0.step)⟩
 ·
  rw [if_neg c3] at H
  have c3b0 : ((l0.length : Int) == a1) = false := beq_eq_false_iff_ne.mpr c3
  have c3b1 : ((l0.length : Int) != a1) = true := bne_iff_ne.mpr c3
  obtain rfl := Option.some.inj H
  go_enter Try.func81, Try.ntmps81
  go_wp2
  go_ret
  exact ⟨by first | rfl | (simp; done) | (simp [*]; done), by repeat (first | exact Drawn0.refl _ | apply Drawn0.step)⟩


/-! ### net_checkPlace: function 72 -/
def net_checkPlace.j0 : Nat → Bool → ByteArray → Int → Int → Option (Int)
 | 0, _, _, _, _ => none
 | k + 1, x10, x104000, x104001, x104002 => if x10 = true then (some 1) else ((marking_Valid.f k (([x104001] : List Int)) 1).bind fun t107 => (if t107 = true then (if x104002 = 0 then (some 0) else (if x104001 > x104002 then (some 10) else (some 0))) else (some 10)))
def net_checkPlace.f (k : Nat) (a0_0 : ByteArray) (a0_1 : Int) (a0_2 : Int) : Option (Int) := if a0_2 < 0 then (net_checkPlace.j0 k true a0_0 a0_1 a0_2) else (net_checkPlace.j0 k (decide (a0_2 > 1048576)) a0_0 a0_1 a0_2)
theorem net_checkPlace.mono_l : ∀ k, (∀ y0 y1 y2 y3, LeO (net_checkPlace.j0 k y0 y1 y2 y3) (net_checkPlace.j0 (k + 1) y0 y1 y2 y3))
 | 0 => fun _ _ _ _ r h => by simp [net_checkPlace.j0] at h
 | k + 1 => by
  have ih0 := net_checkPlace.mono_l k
  ·
   intro y0 y1 y2 y3
   unfold net_checkPlace.j0
   repeat' first
   | (with_reducible exact ih0 _ _ _ _)
   | (with_reducible exact marking_Valid.mono _ _ _)
   | (with_reducible exact LeO.refl _)
   | (with_reducible exact LeO.none _)
   | (with_reducible refine LeO.ite ?_ ?_)
   | (with_reducible refine LeO.bind ?_ (fun _ => ?_))
   | exact ih0 _ _ _ _
   | exact marking_Valid.mono _ _ _
   | exact LeO.none _
   | refine LeO.ite ?_ ?_
   | refine LeO.bind ?_ (fun _ => ?_)
theorem net_checkPlace.mono : ∀ a0 a1 a2 k, LeO (net_checkPlace.f k a0 a1 a2) (net_checkPlace.f (k + 1) a0 a1 a2) := by
 intro a0 a1 a2 k
 have ih0 := net_checkPlace.mono_l k
 unfold net_checkPlace.f
 repeat' first
   | (with_reducible exact ih0 _ _ _ _)
   | (with_reducible exact marking_Valid.mono _ _ _)
   | (with_reducible exact LeO.refl _)
   | (with_reducible exact LeO.none _)
   | (with_reducible refine LeO.ite ?_ ?_)
   | (with_reducible refine LeO.bind ?_ (fun _ => ?_))
   | exact ih0 _ _ _ _
   | exact marking_Valid.mono _ _ _
   | exact LeO.none _
   | refine LeO.ite ?_ ?_
   | refine LeO.bind ?_ (fun _ => ?_)
set_option maxHeartbeats 8000000 in
set_option maxRecDepth 100000 in
theorem net_checkPlace.calls (k : Nat) (a0_0 : ByteArray) (a0_1 : Int) (a0_2 : Int) (r : Int) (w : World) (h : net_checkPlace.f k a0_0 a0_1 a0_2 = some r) :
  Calls Try.prog 72 #[.agg #[.string a0_0, .int .i64 a0_1, .int .i64 a0_2]] w fun e w' => e = .returned (.int .i64 r) ∧ Below w.heap.size w w' := by
 have hu56 := Try.underlying56
 have hu3 := Try.underlying3
 have hu9 := Try.underlying9
 have HB := Aside0.mk (Below.refl w.heap.size w)
 have H : (if a0_2 < 0 then (net_checkPlace.j0 k true a0_0 a0_1 a0_2) else (net_checkPlace.j0 k (decide (a0_2 > 1048576)) a0_0 a0_1 a0_2)) = some r := h
 clear h
 have HC2 := Aside0.mk H
 clear H
 go_enter Try.func72, Try.ntmps72
 go_upto_region 1 with (first | ((with_reducible refine gate_dst (N := 1) rfl ?_); refine box_event ?hg (N := 1) ?hd (cs := #[.string a0_0, .int .i64 a0_1, .int .i64 a0_2]) (t := 56) ?hr ?_; (case hd => rfl); (case hg => rfl); (case hr => first | (go_simp; done) | (go_simp; rfl)); intro gb103 hg w3 hbox hb; have n0_ := Aside0.mk (below_step (by repeat (first | (with_reducible first | exact HB.out | apply below_alloc | apply pw_below_drewN | apply below_drew1) | exact HB.out)) hb); have n1_ := Aside0.mk (hbox); have n2_ := Aside0.mk ((by rw [hg]; exact (below_size (by repeat (first | (with_reducible first | exact HB.out | apply below_alloc | apply pw_below_drewN | apply below_drew1) | exact HB.out))) : w.heap.size ≤ gb103)); have n3_ := Aside0.mk ((by rw [hg]; exact (below_size (by repeat (first | (with_reducible first | exact HB.out | apply below_alloc | apply pw_below_drewN | apply below_drew1) | exact HB.out))) : w.heap.size ≤ gb103)); clear HB; have HB := n0_; have BK103 := n1_; have GW103 := n2_; have GE103 := n3_; clear n0_ n1_ n2_ n3_; clear hb hbox hg))
 (try simp only [Act.put, List.setIfInBounds_toArray, List.set_cons_zero, List.set_cons_succ])
 go_cut [10] (fun v10 wc => ∃ (kq : Nat) (x10_1 : Bool), v10 = .bool x10_1 ∧ Aside0 (net_checkPlace.j0 kq x10_1 a0_0 a0_1 a0_2 = some r) ∧ Aside0 (kq ≤ k) ∧ Aside0 (wc.heap[gb103]? = some (.cells #[.string a0_0, .int .i64 a0_1, .int .i64 a0_2] 56 (0, 0))) ∧ Aside0 (Below w.heap.size w wc))
 case first =>
  have H := HC2.out
  clear HC2
  by_cases c4 : a0_2 < 0
  ·
   rw [if_pos c4] at H
   have c4b0 : decide (a0_2 < 0) = true := decide_eq_true c4
   clear c4
   (first | rw [c4b0] | (simp only [i64_w, i32_w]; rw [c4b0]) | skip)
   have H' := Aside0.mk H
   clear H
   have hcz5_0 : w3.cell? ⟨gb103, 0, none⟩ = some (.string a0_0) := (blk_cell BK103.out 0).trans rfl
   have hcz5_1 : w3.cell? ⟨gb103, 1, none⟩ = some (.int .i64 a0_1) := (blk_cell BK103.out 1).trans rfl
   have hcz5_2 : w3.cell? ⟨gb103, 2, none⟩ = some (.int .i64 a0_2) := (blk_cell BK103.out 2).trans rfl
   have hfz5_0 := blk_frozen BK103.out 0
   have hfz5_1 := blk_frozen BK103.out 1
   have hfz5_2 := blk_frozen BK103.out 2
   go_wp2
   go_meet
   case rel => exact ⟨_, (true), (by first | rfl | (simp; done) | (simp [*]; done) | (simp [i64_w]; done)), H', ⟨by first | omega | exact Nat.le_refl _⟩, ⟨by (with_reducible repeat (first | refine blk_drewN ?_ _ | refine blk_drew ?_ | refine blk_alloc ?_ _)); exact BK103.out⟩, ⟨by repeat (first | (with_reducible first | exact HB.out | apply below_alloc | apply pw_below_drewN | apply below_drew1 | refine below_set ?_ GE103.out) | exact HB.out)⟩⟩
  ·
   rw [if_neg c4] at H
   have c4b0 : decide (a0_2 < 0) = false := decide_eq_false c4
   clear c4
   (first | rw [c4b0] | (simp only [i64_w, i32_w]; rw [c4b0]) | skip)
   have H' := Aside0.mk H
   clear H
   have hcz6_0 : w3.cell? ⟨gb103, 0, none⟩ = some (.string a0_0) := (blk_cell BK103.out 0).trans rfl
   have hcz6_1 : w3.cell? ⟨gb103, 1, none⟩ = some (.int .i64 a0_1) := (blk_cell BK103.out 1).trans rfl
   have hcz6_2 : w3.cell? ⟨gb103, 2, none⟩ = some (.int .i64 a0_2) := (blk_cell BK103.out 2).trans rfl
   have hfz6_0 := blk_frozen BK103.out 0
   have hfz6_1 := blk_frozen BK103.out 1
   have hfz6_2 := blk_frozen BK103.out 2
   go_wp2
   go_meet
   case rel => exact ⟨_, (decide (a0_2 > 1048576)), (by first | rfl | (simp; done) | (simp [*]; done) | (simp [i64_w]; done)), H', ⟨by first | omega | exact Nat.le_refl _⟩, ⟨by (with_reducible repeat (first | refine blk_drewN ?_ _ | refine blk_drew ?_ | refine blk_alloc ?_ _)); exact BK103.out⟩, ⟨by repeat (first | (with_reducible first | exact HB.out | apply below_alloc | apply pw_below_drewN | apply below_drew1 | refine below_set ?_ GE103.out) | exact HB.out)⟩⟩
 case rest =>
  clear HC2
  try clear p2
  try clear c4
  try clear c4b0
  try clear hcz5_0
  try clear hcz5_1
  try clear hcz5_2
  try clear hcz6_0
  try clear hcz6_1
  try clear hcz6_2
  try clear hfz5_0
  try clear hfz5_1
  try clear hfz5_2
  try clear hfz6_0
  try clear hfz6_1
  try clear hfz6_2
  obtain ⟨kq, x10_1, rfl, HA, HJ1, BK103, HB⟩ := hcut
  cases kq with
  | zero => exact absurd HA.out (by simp [net_checkPlace.j0])
  | succ kj1 =>
   have H := HA.out
   clear HA
   simp only [net_checkPlace.j0] at H
   by_cases c7 : x10_1 = true
   ·
    subst c7
    have H1 : (some 1) = some r := by rw [if_pos rfl] at H; exact H
    clear H
    have H := H1
    clear H1
    obtain rfl := Option.some.inj H
    go_wp2
    go_ret
    exact ⟨by first | rfl | (simp [errW_none, errW_some] <;> rfl) | (simp [*, errW_none, errW_some] <;> rfl), by repeat (first | (with_reducible first | exact HB.out | apply below_alloc | apply pw_below_drewN | apply below_drew1 | refine below_set ?_ GE103.out) | exact HB.out)⟩
   ·
    replace c7 := Bool.eq_false_iff.mpr c7
    subst c7
    have H1 : ((marking_Valid.f kj1 (([a0_1] : List Int)) 1).bind fun t107 => (if t107 = true then (if a0_2 = 0 then (some 0) else (if a0_1 > a0_2 then (some 10) else (some 0))) else (some 10))) = some r := by rw [if_neg (show ¬ (false = true) by decide)] at H; exact H
    clear H
    have H := H1
    clear H1
    obtain ⟨y104, hy104⟩ : ∃ y_ : List Int, y_ = (([a0_1] : List Int)) := ⟨_, rfl⟩
    replace H : ((marking_Valid.f kj1 y104 1).bind fun t107 => (if t107 = true then (if a0_2 = 0 then (some 0) else (if a0_1 > a0_2 then (some 10) else (some 0))) else (some 10))) = some r := by first | (rw [hy104]; with_reducible exact H) | (have H2_ := (Option.bind_some _ _).symm.trans H; rw [hy104]; with_reducible exact H2_) | (have H2_ := (Option.bind_some _ _).symm.trans H; with_reducible exact H2_) | with_reducible exact H | (rw [hy104]; exact H) | exact H
    have Ny104 := Aside0.mk hy104
    clear hy104
    replace H := Option.bind_eq_some_iff.mp H
    obtain ⟨t107, A80, H⟩ := H
    replace H : (if t107 = true then (if a0_2 = 0 then (some 0) else (if a0_1 > a0_2 then (some 10) else (some 0))) else (some 10)) = some r := H
    have A8 := Aside0.mk A80
    clear A80
    by_cases c9 : t107 = true
    ·
     subst c9
     have H1 : (if a0_2 = 0 then (some 0) else (if a0_1 > a0_2 then (some 10) else (some 0))) = some r := by rw [if_pos rfl] at H; exact H
     clear H
     have H := H1
     clear H1
     by_cases c10 : a0_2 = 0
     ·
      rw [if_pos c10] at H
      have c10b0 : (a0_2 == 0) = true := beq_iff_eq.mpr c10
      have c10b1 : (a0_2 != 0) = false := bne_eq_false_iff_eq.mpr c10
      clear c10
      obtain rfl := Option.some.inj H
      have hcz11_0 : wc.cell? ⟨gb103, 0, none⟩ = some (.string a0_0) := (blk_cell BK103.out 0).trans rfl
      have hcz11_1 : wc.cell? ⟨gb103, 1, none⟩ = some (.int .i64 a0_1) := (blk_cell BK103.out 1).trans rfl
      have hcz11_2 : wc.cell? ⟨gb103, 2, none⟩ = some (.int .i64 a0_2) := (blk_cell BK103.out 2).trans rfl
      have hfz11_0 := blk_frozen BK103.out 0
      have hfz11_1 := blk_frozen BK103.out 1
      have hfz11_2 := blk_frozen BK103.out 2
      go_wp2_with (first | ((with_reducible refine gate_dst (N := 13) rfl ?_); refine Kd.R_lit (Kd.int .i64) _ 3 ?hg (N := 13) ?hd (xs := ([a0_1] : List Int)) (inner := [.int .i64 a0_1]) (ok := fun _ => True) (okp := fun _ => True) ?hr ?hp (fun _ hk => hk) trivial (Below.refl _ _) (Nat.le_refl _) (by simp) ?_; (case hd => rfl); (case hg => rfl); (case hr => first | (go_simp; done) | (go_simp; rfl)); (case hp => exact (Reps.one (show Kd.M (Kd.int .i64) _ _ _ a0_1 [.int .i64 a0_1] from rfl) (Reps.none _ _))); intro v105 w12 ho13 hb hg_ hnew_; clear hg_ hnew_; (first | rw [← Ny104.out] at ho13 | (simp only [Int.reduceToNat] at ho13; rw [← Ny104.out] at ho13)); have n0_ := Aside0.mk (Kd.R_lower ho13 (below_size (by repeat (first | (with_reducible first | exact HB.out | apply below_alloc | apply pw_below_drewN | apply below_drew1 | refine below_set ?_ GE103.out) | exact HB.out)))); have n1_ := Aside0.mk (blk_below (g := gb103) (o := .cells #[.string a0_0, .int .i64 a0_1, .int .i64 a0_2] 56 (0, 0)) (by (with_reducible repeat (first | refine blk_drewN ?_ _ | refine blk_drew ?_ | refine blk_alloc ?_ _)); exact BK103.out) hb); have n2_ := Aside0.mk (below_step (by repeat (first | (with_reducible first | exact HB.out | apply below_alloc | apply pw_below_drewN | apply below_drew1 | refine below_set ?_ GE103.out) | exact HB.out)) hb); clear BK103; clear HB; have HO106 := n0_; have BK103 := n1_; have HB := n2_; clear n0_ n1_ n2_; clear hb ho13; obtain ⟨Ao14, co14, eo14⟩ := Kd.R_slice HO106.out; subst eo14) | ((with_reducible refine gate_callee (f := 81) rfl ?_); refine goesL_ (some 14) rfl rfl Try.func81 (by kernel_rfl) rfl #[.slice Ao14 y104.length co14, .int .i64 1] rfl (by (try simp only [List.map_toArray, List.map_cons, List.map_nil]); first | done | rfl | (simp only [List.length_drop, List.length_take]; rfl)) ?_; (with_reducible refine (marking_Valid.calls kj1 _ _ y104 1 true _ ?side1 ?side2 A8.out).mono ?_); (case side1 => repeat (first | exact (Kd.R_reads' HO106.out).2.2 | (with_reducible refine Kd.C_alloc ?_ _) | (with_reducible refine Kd.C_drewN ?_ _) | (with_reducible refine Kd.C_drew ?_))); (case side2 => exact (Kd.R_reads' HO106.out).2.1); rintro e w' ⟨rfl, ⟨nd, rfl⟩⟩; refine ⟨_, rfl, ?_⟩; have hcz15_0 : w12.cell? ⟨gb103, 0, none⟩ = some (.string a0_0) := (blk_cell BK103.out 0).trans rfl; have hcz15_1 : w12.cell? ⟨gb103, 1, none⟩ = some (.int .i64 a0_1) := (blk_cell BK103.out 1).trans rfl; have hcz15_2 : w12.cell? ⟨gb103, 2, none⟩ = some (.int .i64 a0_2) := (blk_cell BK103.out 2).trans rfl; have hfz15_0 := blk_frozen BK103.out 0; have hfz15_1 := blk_frozen BK103.out 1; have hfz15_2 := blk_frozen BK103.out 2))
      go_ret
      exact ⟨by first | rfl | (simp [errW_none, errW_some] <;> rfl) | (simp [*, errW_none, errW_some] <;> rfl), by repeat (first | (with_reducible first | exact HB.out | apply below_alloc | apply pw_below_drewN | apply below_drew1 | refine below_set ?_ GE103.out) | exact HB.out)⟩
     ·
      rw [if_neg c10] at H
      have c10b0 : (a0_2 == 0) = false := beq_eq_false_iff_ne.mpr c10
      have c10b1 : (a0_2 != 0) = true := bne_iff_ne.mpr c10
      by_cases c16 : a0_1 > a0_2
      ·
       rw [if_pos c16] at H
       have c16b0 : decide (a0_2 < a0_1) = true := decide_eq_true c16
       clear c16
       obtain rfl := Option.some.inj H
       have hcz17_0 : wc.cell? ⟨gb103, 0, none⟩ = some (.string a0_0) := (blk_cell BK103.out 0).trans rfl
       have hcz17_1 : wc.cell? ⟨gb103, 1, none⟩ = some (.int .i64 a0_1) := (blk_cell BK103.out 1).trans rfl
       have hcz17_2 : wc.cell? ⟨gb103, 2, none⟩ = some (.int .i64 a0_2) := (blk_cell BK103.out 2).trans rfl
       have hfz17_0 := blk_frozen BK103.out 0
       have hfz17_1 := blk_frozen BK103.out 1
       have hfz17_2 := blk_frozen BK103.out 2
       go_wp2_with (first | ((with_reducible refine gate_dst (N := 13) rfl ?_); refine Kd.R_lit (Kd.int .i64) _ 3 ?hg (N := 13) ?hd (xs := ([a0_1] : List Int)) (inner := [.int .i64 a0_1]) (ok := fun _ => True) (okp := fun _ => True) ?hr ?hp (fun _ hk => hk) trivial (Below.refl _ _) (Nat.le_refl _) (by simp) ?_; (case hd => rfl); (case hg => rfl); (case hr => first | (go_simp; done) | (go_simp; rfl)); (case hp => exact (Reps.one (show Kd.M (Kd.int .i64) _ _ _ a0_1 [.int .i64 a0_1] from rfl) (Reps.none _ _))); intro v105 w18 ho19 hb hg_ hnew_; clear hg_ hnew_; (first | rw [← Ny104.out] at ho19 | (simp only [Int.reduceToNat] at ho19; rw [← Ny104.out] at ho19)); have n0_ := Aside0.mk (Kd.R_lower ho19 (below_size (by repeat (first | (with_reducible first | exact HB.out | apply below_alloc | apply pw_below_drewN | apply below_drew1 | refine below_set ?_ GE103.out) | exact HB.out)))); have n1_ := Aside0.mk (blk_below (g := gb103) (o := .cells #[.string a0_0, .int .i64 a0_1, .int .i64 a0_2] 56 (0, 0)) (by (with_reducible repeat (first | refine blk_drewN ?_ _ | refine blk_drew ?_ | refine blk_alloc ?_ _)); exact BK103.out) hb); have n2_ := Aside0.mk (below_step (by repeat (first | (with_reducible first | exact HB.out | apply below_alloc | apply pw_below_drewN | apply below_drew1 | refine below_set ?_ GE103.out) | exact HB.out)) hb); clear BK103; clear HB; have HO106 := n0_; have BK103 := n1_; have HB := n2_; clear n0_ n1_ n2_; clear hb ho19; obtain ⟨Ao20, co20, eo20⟩ := Kd.R_slice HO106.out; subst eo20) | ((with_reducible refine gate_callee (f := 81) rfl ?_); refine goesL_ (some 14) rfl rfl Try.func81 (by kernel_rfl) rfl #[.slice Ao20 y104.length co20, .int .i64 1] rfl (by (try simp only [List.map_toArray, List.map_cons, List.map_nil]); first | done | rfl | (simp only [List.length_drop, List.length_take]; rfl)) ?_; (with_reducible refine (marking_Valid.calls kj1 _ _ y104 1 true _ ?side1 ?side2 A8.out).mono ?_); (case side1 => repeat (first | exact (Kd.R_reads' HO106.out).2.2 | (with_reducible refine Kd.C_alloc ?_ _) | (with_reducible refine Kd.C_drewN ?_ _) | (with_reducible refine Kd.C_drew ?_))); (case side2 => exact (Kd.R_reads' HO106.out).2.1); rintro e w' ⟨rfl, ⟨nd, rfl⟩⟩; refine ⟨_, rfl, ?_⟩; have hcz21_0 : w18.cell? ⟨gb103, 0, none⟩ = some (.string a0_0) := (blk_cell BK103.out 0).trans rfl; have hcz21_1 : w18.cell? ⟨gb103, 1, none⟩ = some (.int .i64 a0_1) := (blk_cell BK103.out 1).trans rfl; have hcz21_2 : w18.cell? ⟨gb103, 2, none⟩ = some (.int .i64 a0_2) := (blk_cell BK103.out 2).trans rfl; have hfz21_0 := blk_frozen BK103.out 0; have hfz21_1 := blk_frozen BK103.out 1; have hfz21_2 := blk_frozen BK103.out 2))
       go_ret
       exact ⟨by first | rfl | (simp [errW_none, errW_some] <;> rfl) | (simp [*, errW_none, errW_some] <;> rfl), by repeat (first | (with_reducible first | exact HB.out | apply below_alloc | apply pw_below_drewN | apply below_drew1 | refine below_set ?_ GE103.out) | exact HB.out)⟩
      ·
       rw [if_neg c16] at H
       have c16b0 : decide (a0_2 < a0_1) = false := decide_eq_false c16
       clear c16
       obtain rfl := Option.some.inj H
       have hcz22_0 : wc.cell? ⟨gb103, 0, none⟩ = some (.string a0_0) := (blk_cell BK103.out 0).trans rfl
       have hcz22_1 : wc.cell? ⟨gb103, 1, none⟩ = some (.int .i64 a0_1) := (blk_cell BK103.out 1).trans rfl
       have hcz22_2 : wc.cell? ⟨gb103, 2, none⟩ = some (.int .i64 a0_2) := (blk_cell BK103.out 2).trans rfl
       have hfz22_0 := blk_frozen BK103.out 0
       have hfz22_1 := blk_frozen BK103.out 1
       have hfz22_2 := blk_frozen BK103.out 2
       go_wp2_with (first | ((with_reducible refine gate_dst (N := 13) rfl ?_); refine Kd.R_lit (Kd.int .i64) _ 3 ?hg (N := 13) ?hd (xs := ([a0_1] : List Int)) (inner := [.int .i64 a0_1]) (ok := fun _ => True) (okp := fun _ => True) ?hr ?hp (fun _ hk => hk) trivial (Below.refl _ _) (Nat.le_refl _) (by simp) ?_; (case hd => rfl); (case hg => rfl); (case hr => first | (go_simp; done) | (go_simp; rfl)); (case hp => exact (Reps.one (show Kd.M (Kd.int .i64) _ _ _ a0_1 [.int .i64 a0_1] from rfl) (Reps.none _ _))); intro v105 w23 ho24 hb hg_ hnew_; clear hg_ hnew_; (first | rw [← Ny104.out] at ho24 | (simp only [Int.reduceToNat] at ho24; rw [← Ny104.out] at ho24)); have n0_ := Aside0.mk (Kd.R_lower ho24 (below_size (by repeat (first | (with_reducible first | exact HB.out | apply below_alloc | apply pw_below_drewN | apply below_drew1 | refine below_set ?_ GE103.out) | exact HB.out)))); have n1_ := Aside0.mk (blk_below (g := gb103) (o := .cells #[.string a0_0, .int .i64 a0_1, .int .i64 a0_2] 56 (0, 0)) (by (with_reducible repeat (first | refine blk_drewN ?_ _ | refine blk_drew ?_ | refine blk_alloc ?_ _)); exact BK103.out) hb); have n2_ := Aside0.mk (below_step (by repeat (first | (with_reducible first | exact HB.out | apply below_alloc | apply pw_below_drewN | apply below_drew1 | refine below_set ?_ GE103.out) | exact HB.out)) hb); clear BK103; clear HB; have HO106 := n0_; have BK103 := n1_; have HB := n2_; clear n0_ n1_ n2_; clear hb ho24; obtain ⟨Ao25, co25, eo25⟩ := Kd.R_slice HO106.out; subst eo25) | ((with_reducible refine gate_callee (f := 81) rfl ?_); refine goesL_ (some 14) rfl rfl Try.func81 (by kernel_rfl) rfl #[.slice Ao25 y104.length co25, .int .i64 1] rfl (by (try simp only [List.map_toArray, List.map_cons, List.map_nil]); first | done | rfl | (simp only [List.length_drop, List.length_take]; rfl)) ?_; (with_reducible refine (marking_Valid.calls kj1 _ _ y104 1 true _ ?side1 ?side2 A8.out).mono ?_); (case side1 => repeat (first | exact (Kd.R_reads' HO106.out).2.2 | (with_reducible refine Kd.C_alloc ?_ _) | (with_reducible refine Kd.C_drewN ?_ _) | (with_reducible refine Kd.C_drew ?_))); (case side2 => exact (Kd.R_reads' HO106.out).2.1); rintro e w' ⟨rfl, ⟨nd, rfl⟩⟩; refine ⟨_, rfl, ?_⟩; have hcz26_0 : w23.cell? ⟨gb103, 0, none⟩ = some (.string a0_0) := (blk_cell BK103.out 0).trans rfl; have hcz26_1 : w23.cell? ⟨gb103, 1, none⟩ = some (.int .i64 a0_1) := (blk_cell BK103.out 1).trans rfl; have hcz26_2 : w23.cell? ⟨gb103, 2, none⟩ = some (.int .i64 a0_2) := (blk_cell BK103.out 2).trans rfl; have hfz26_0 := blk_frozen BK103.out 0; have hfz26_1 := blk_frozen BK103.out 1; have hfz26_2 := blk_frozen BK103.out 2))
       go_ret
       exact ⟨by first | rfl | (simp [errW_none, errW_some] <;> rfl) | (simp [*, errW_none, errW_some] <;> rfl), by repeat (first | (with_reducible first | exact HB.out | apply below_alloc | apply pw_below_drewN | apply below_drew1 | refine below_set ?_ GE103.out) | exact HB.out)⟩
    ·
     replace c9 := Bool.eq_false_iff.mpr c9
     subst c9
     have H1 : (some 10) = some r := by rw [if_neg (show ¬ (false = true) by decide)] at H; exact H
     clear H
     have H := H1
     clear H1
     obtain rfl := Option.some.inj H
     have hcz27_0 : wc.cell? ⟨gb103, 0, none⟩ = some (.string a0_0) := (blk_cell BK103.out 0).trans rfl
     have hcz27_1 : wc.cell? ⟨gb103, 1, none⟩ = some (.int .i64 a0_1) := (blk_cell BK103.out 1).trans rfl
     have hcz27_2 : wc.cell? ⟨gb103, 2, none⟩ = some (.int .i64 a0_2) := (blk_cell BK103.out 2).trans rfl
     have hfz27_0 := blk_frozen BK103.out 0
     have hfz27_1 := blk_frozen BK103.out 1
     have hfz27_2 := blk_frozen BK103.out 2
     go_wp2_with (first | ((with_reducible refine gate_dst (N := 13) rfl ?_); refine Kd.R_lit (Kd.int .i64) _ 3 ?hg (N := 13) ?hd (xs := ([a0_1] : List Int)) (inner := [.int .i64 a0_1]) (ok := fun _ => True) (okp := fun _ => True) ?hr ?hp (fun _ hk => hk) trivial (Below.refl _ _) (Nat.le_refl _) (by simp) ?_; (case hd => rfl); (case hg => rfl); (case hr => first | (go_simp; done) | (go_simp; rfl)); (case hp => exact (Reps.one (show Kd.M (Kd.int .i64) _ _ _ a0_1 [.int .i64 a0_1] from rfl) (Reps.none _ _))); intro v105 w28 ho29 hb hg_ hnew_; clear hg_ hnew_; (first | rw [← Ny104.out] at ho29 | (simp only [Int.reduceToNat] at ho29; rw [← Ny104.out] at ho29)); have n0_ := Aside0.mk (Kd.R_lower ho29 (below_size (by repeat (first | (with_reducible first | exact HB.out | apply below_alloc | apply pw_below_drewN | apply below_drew1 | refine below_set ?_ GE103.out) | exact HB.out)))); have n1_ := Aside0.mk (blk_below (g := gb103) (o := .cells #[.string a0_0, .int .i64 a0_1, .int .i64 a0_2] 56 (0, 0)) (by (with_reducible repeat (first | refine blk_drewN ?_ _ | refine blk_drew ?_ | refine blk_alloc ?_ _)); exact BK103.out) hb); have n2_ := Aside0.mk (below_step (by repeat (first | (with_reducible first | exact HB.out | apply below_alloc | apply pw_below_drewN | apply below_drew1 | refine below_set ?_ GE103.out) | exact HB.out)) hb); clear BK103; clear HB; have HO106 := n0_; have BK103 := n1_; have HB := n2_; clear n0_ n1_ n2_; clear hb ho29; obtain ⟨Ao30, co30, eo30⟩ := Kd.R_slice HO106.out; subst eo30) | ((with_reducible refine gate_callee (f := 81) rfl ?_); refine goesL_ (some 14) rfl rfl Try.func81 (by kernel_rfl) rfl #[.slice Ao30 y104.length co30, .int .i64 1] rfl (by (try simp only [List.map_toArray, List.map_cons, List.map_nil]); first | done | rfl | (simp only [List.length_drop, List.length_take]; rfl)) ?_; (with_reducible refine (marking_Valid.calls kj1 _ _ y104 1 false _ ?side1 ?side2 A8.out).mono ?_); (case side1 => repeat (first | exact (Kd.R_reads' HO106.out).2.2 | (with_reducible refine Kd.C_alloc ?_ _) | (with_reducible refine Kd.C_drewN ?_ _) | (with_reducible refine Kd.C_drew ?_))); (case side2 => exact (Kd.R_reads' HO106.out).2.1); rintro e w' ⟨rfl, ⟨nd, rfl⟩⟩; refine ⟨_, rfl, ?_⟩))
     go_ret
     exact ⟨by first | rfl | (simp [errW_none, errW_some] <;> rfl) | (simp [*, errW_none, errW_some] <;> rfl), by repeat (first | (with_reducible first | exact HB.out | apply below_alloc | apply pw_below_drewN | apply below_drew1 | refine below_set ?_ GE103.out) | exact HB.out)⟩


/-! ### net_checkArcs: function 82 -/
mutual
def net_checkArcs.l0 : Nat → List (S58) → Int → List (S58) → Int → Int → Option (Int)
 | 0, _, _, _, _, _ => none
 | k + 1, x0, x1, x7, x8, x9 => if x9 < x8 then (if 0 ≤ x9 then (if x9 < (x7.length : Int) then (if ((rd_T58 x7 x9).f0) < 0 then (net_checkArcs.j1 k x0 x1 x9 x7 x8 x9 true ((rd_T58 x7 x9).f0) ((rd_T58 x7 x9).f1)) else (net_checkArcs.j1 k x0 x1 x9 x7 x8 x9 (decide (((rd_T58 x7 x9).f0) ≥ x1)) ((rd_T58 x7 x9).f0) ((rd_T58 x7 x9).f1))) else (none)) else (none)) else (some 0)
def net_checkArcs.j1 : Nat → List (S58) → Int → Int → List (S58) → Int → Int → Bool → Int → Int → Option (Int)
 | 0, _, _, _, _, _, _, _, _, _ => none
 | k + 1, x0, x1, x5, x7, x8, x9, x14, x110000, x110001 => if x14 = true then (some 7) else (if x5 > 0 then (if 0 ≤ (wrap64 (x5 - 1)) then (if (wrap64 (x5 - 1)) < (x0.length : Int) then (net_checkArcs.j2 k x0 x1 x7 x8 x9 (decide (((rd_T58 x0 (wrap64 (x5 - 1))).f0) ≥ x110000)) x110000 x110001) else (none)) else (none)) else (net_checkArcs.j2 k x0 x1 x7 x8 x9 false x110000 x110001))
def net_checkArcs.j2 : Nat → List (S58) → Int → List (S58) → Int → Int → Bool → Int → Int → Option (Int)
 | 0, _, _, _, _, _, _, _, _ => none
 | k + 1, x0, x1, x7, x8, x9, x24, x110000, x110001 => if x24 = true then (some 8) else (if x110001 < 1 then (some 9) else (if x110001 > 99 then (some 9) else (net_checkArcs.l0 k x0 x1 x7 x8 (wrap64 (x9 + 1)))))
end
def net_checkArcs.f (k : Nat) (l0 : List (S58)) (a1 : Int) : Option (Int) := net_checkArcs.l0 k l0 a1 l0 (l0.length : Int) 0
theorem net_checkArcs.mono_l : ∀ k, (∀ y0 y1 y2 y3 y4, LeO (net_checkArcs.l0 k y0 y1 y2 y3 y4) (net_checkArcs.l0 (k + 1) y0 y1 y2 y3 y4)) ∧ (∀ y0 y1 y2 y3 y4 y5 y6 y7 y8, LeO (net_checkArcs.j1 k y0 y1 y2 y3 y4 y5 y6 y7 y8) (net_checkArcs.j1 (k + 1) y0 y1 y2 y3 y4 y5 y6 y7 y8)) ∧ (∀ y0 y1 y2 y3 y4 y5 y6 y7, LeO (net_checkArcs.j2 k y0 y1 y2 y3 y4 y5 y6 y7) (net_checkArcs.j2 (k + 1) y0 y1 y2 y3 y4 y5 y6 y7))
 | 0 => ⟨fun _ _ _ _ _ r h => by simp [net_checkArcs.l0] at h, fun _ _ _ _ _ _ _ _ _ r h => by simp [net_checkArcs.j1] at h, fun _ _ _ _ _ _ _ _ r h => by simp [net_checkArcs.j2] at h⟩
 | k + 1 => by
  obtain ⟨ih0, ih1, ih2⟩ := net_checkArcs.mono_l k
  refine ⟨?_, ?_, ?_⟩
  ·
   intro y0 y1 y2 y3 y4
   unfold net_checkArcs.l0
   repeat' first
   | (with_reducible exact ih0 _ _ _ _ _)
   | (with_reducible exact ih1 _ _ _ _ _ _ _ _ _)
   | (with_reducible exact ih2 _ _ _ _ _ _ _ _)
   | (with_reducible exact LeO.refl _)
   | (with_reducible exact LeO.none _)
   | (with_reducible refine LeO.ite ?_ ?_)
   | (with_reducible refine LeO.bind ?_ (fun _ => ?_))
   | exact ih0 _ _ _ _ _
   | exact ih1 _ _ _ _ _ _ _ _ _
   | exact ih2 _ _ _ _ _ _ _ _
   | exact LeO.none _
   | refine LeO.ite ?_ ?_
   | refine LeO.bind ?_ (fun _ => ?_)
  ·
   intro y0 y1 y2 y3 y4 y5 y6 y7 y8
   unfold net_checkArcs.j1
   repeat' first
   | (with_reducible exact ih0 _ _ _ _ _)
   | (with_reducible exact ih1 _ _ _ _ _ _ _ _ _)
   | (with_reducible exact ih2 _ _ _ _ _ _ _ _)
   | (with_reducible exact LeO.refl _)
   | (with_reducible exact LeO.none _)
   | (with_reducible refine LeO.ite ?_ ?_)
   | (with_reducible refine LeO.bind ?_ (fun _ => ?_))
   | exact ih0 _ _ _ _ _
   | exact ih1 _ _ _ _ _ _ _ _ _
   | exact ih2 _ _ _ _ _ _ _ _
   | exact LeO.none _
   | refine LeO.ite ?_ ?_
   | refine LeO.bind ?_ (fun _ => ?_)
  ·
   intro y0 y1 y2 y3 y4 y5 y6 y7
   unfold net_checkArcs.j2
   repeat' first
   | (with_reducible exact ih0 _ _ _ _ _)
   | (with_reducible exact ih1 _ _ _ _ _ _ _ _ _)
   | (with_reducible exact ih2 _ _ _ _ _ _ _ _)
   | (with_reducible exact LeO.refl _)
   | (with_reducible exact LeO.none _)
   | (with_reducible refine LeO.ite ?_ ?_)
   | (with_reducible refine LeO.bind ?_ (fun _ => ?_))
   | exact ih0 _ _ _ _ _
   | exact ih1 _ _ _ _ _ _ _ _ _
   | exact ih2 _ _ _ _ _ _ _ _
   | exact LeO.none _
   | refine LeO.ite ?_ ?_
   | refine LeO.bind ?_ (fun _ => ?_)
theorem net_checkArcs.mono : ∀ a0 a1 k, LeO (net_checkArcs.f k a0 a1) (net_checkArcs.f (k + 1) a0 a1) := by
 intro a0 a1 k
 obtain ⟨ih0, ih1, ih2⟩ := net_checkArcs.mono_l k
 unfold net_checkArcs.f
 repeat' first
   | (with_reducible exact ih0 _ _ _ _ _)
   | (with_reducible exact ih1 _ _ _ _ _ _ _ _ _)
   | (with_reducible exact ih2 _ _ _ _ _ _ _ _)
   | (with_reducible exact LeO.refl _)
   | (with_reducible exact LeO.none _)
   | (with_reducible refine LeO.ite ?_ ?_)
   | (with_reducible refine LeO.bind ?_ (fun _ => ?_))
   | exact ih0 _ _ _ _ _
   | exact ih1 _ _ _ _ _ _ _ _ _
   | exact ih2 _ _ _ _ _ _ _ _
   | exact LeO.none _
   | refine LeO.ite ?_ ?_
   | refine LeO.bind ?_ (fun _ => ?_)
set_option maxHeartbeats 8000000 in
set_option maxRecDepth 100000 in
theorem net_checkArcs.calls (k : Nat) (A0 : Option Addr) (c0 : Nat) (l0 : List (S58)) (a1 : Int) (r : Int) (w : World) (hr0 : Kd.C k58 w A0 l0.length l0) (hc0 : l0.length ≤ c0) (h : net_checkArcs.f k l0 a1 = some r) :
  Calls Try.prog 82 #[.slice A0 l0.length c0, .int .i64 a1] w fun e w' => e = .returned (.int .i64 r) ∧ Below w.heap.size w w' := by
 have hu58 := Try.underlying58
 have hu3 := Try.underlying3
 have HR0 := Aside0.mk hr0
 have HC0 := Aside0.mk hc0
 clear hr0 hc0
 have HB := Aside0.mk (Below.refl w.heap.size w)
 have H : (net_checkArcs.l0 k l0 a1 l0 (l0.length : Int) 0) = some r := h
 clear h
 have H' := Aside0.mk H
 clear H
 go_enter Try.func82, Try.ntmps82
 go_wp2
 repeat (go_quiet (fail); try go_wp2)
 go_loopg [9] k (fun kq v9 w' => ∃ (x9_1 : Int), v9 = .int .i64 x9_1 ∧ Aside0 (net_checkArcs.l0 kq l0 a1 l0 (l0.length : Int) x9_1 = some r) ∧ Aside0 (kq ≤ k) ∧ Aside0 (Below w.heap.size w w'))
 case atStart => exact ⟨(0), (by first | rfl | (simp; done) | (simp [*]; done) | (simp [i64_w]; done)), H', ⟨Nat.le_refl _⟩, ⟨by repeat (first | (with_reducible first | exact HB.out | apply below_alloc | apply pw_below_drewN | apply below_drew1) | exact HB.out)⟩⟩
 case round =>
  clear H'
  try clear p2
  obtain ⟨x9_1, rfl, HA, HK1, HB⟩ := hrel
  cases gk with
  | zero => exact absurd HA.out (by simp [net_checkArcs.l0])
  | succ k1 =>
   have H := HA.out
   clear HA
   simp only [net_checkArcs.l0] at H
   by_cases c3 : x9_1 < (l0.length : Int)
   ·
    rw [if_pos c3] at H
    have c3b0 : decide (x9_1 < (l0.length : Int)) = true := decide_eq_true c3
    clear c3
    by_cases c4 : 0 ≤ x9_1
    ·
     rw [if_pos c4] at H
     have c4b0 : decide (0 ≤ x9_1) = true := decide_eq_true c4
     clear c4
     by_cases c5 : x9_1 < (l0.length : Int)
     ·
      rw [if_pos c5] at H
      have c5b0 : decide (x9_1 < (l0.length : Int)) = true := decide_eq_true c5
      clear c5
      have HC6 := Aside0.mk H
      clear H
      have p108 : 0 ≤ (x9_1 : Int) := of_decide_eq_true (by first | (with_reducible assumption) | assumption)
      have q108 : x9_1 < (l0.length : Int) := of_decide_eq_true (by first | (with_reducible assumption) | assumption)
      obtain ⟨ad108, e108, hx108_0, hx108_1⟩ := at_T58 HR0.out x9_1 p108 q108
      cases e108
      replace hx108_0 := (HB.out.cell (World.block_lt_of_cell? w _ hx108_0)).trans hx108_0
      replace hx108_1 := (HB.out.cell (World.block_lt_of_cell? w _ hx108_1)).trans hx108_1
      replace p108 := eq_true p108
      replace q108 := eq_true q108
      go_upto_region 4 with (first | ((with_reducible refine gate_dst (N := 6) rfl ?_); refine box_event ?hg (N := 6) ?hd (cs := #[.int .i64 0, .int .i64 0]) (t := 58) ?hr ?_; (case hd => rfl); (case hg => rfl); (case hr => first | (go_simp; done) | (go_simp; rfl)); intro gb109 hg w7 hbox hb; have n0_ := Aside0.mk (below_step (by repeat (first | (with_reducible first | exact HB.out | apply below_alloc | apply pw_below_drewN | apply below_drew1) | exact HB.out)) hb); have n1_ := Aside0.mk (hbox); have n2_ := Aside0.mk ((by rw [hg]; exact (below_size (by repeat (first | (with_reducible first | exact HB.out | apply below_alloc | apply pw_below_drewN | apply below_drew1) | exact HB.out))) : w.heap.size ≤ gb109)); have n3_ := Aside0.mk ((by rw [hg]; exact (below_size (by repeat (first | (with_reducible first | exact HB.out | apply below_alloc | apply pw_below_drewN | apply below_drew1) | exact HB.out))) : w.heap.size ≤ gb109)); clear HB; have HB := n0_; have BK109 := n1_; have GW109 := n2_; have GE109 := n3_; clear n0_ n1_ n2_ n3_; clear hb hbox hg; have hcz8_0 : w7.cell? ⟨gb109, 0, none⟩ = some (.int .i64 0) := (blk_cell BK109.out 0).trans rfl; have hcz8_1 : w7.cell? ⟨gb109, 1, none⟩ = some (.int .i64 0) := (blk_cell BK109.out 1).trans rfl; have hfz8_0 := blk_frozen BK109.out 0; have hfz8_1 := blk_frozen BK109.out 1))
      repeat (go_quiet (first | ((with_reducible refine gate_dst (N := 6) rfl ?_); refine box_event ?hg (N := 6) ?hd (cs := #[.int .i64 0, .int .i64 0]) (t := 58) ?hr ?_; (case hd => rfl); (case hg => rfl); (case hr => first | (go_simp; done) | (go_simp; rfl)); intro gb109 hg w7 hbox hb; have n0_ := Aside0.mk (below_step (by repeat (first | (with_reducible first | exact HB.out | apply below_alloc | apply pw_below_drewN | apply below_drew1) | exact HB.out)) hb); have n1_ := Aside0.mk (hbox); have n2_ := Aside0.mk ((by rw [hg]; exact (below_size (by repeat (first | (with_reducible first | exact HB.out | apply below_alloc | apply pw_below_drewN | apply below_drew1) | exact HB.out))) : w.heap.size ≤ gb109)); have n3_ := Aside0.mk ((by rw [hg]; exact (below_size (by repeat (first | (with_reducible first | exact HB.out | apply below_alloc | apply pw_below_drewN | apply below_drew1) | exact HB.out))) : w.heap.size ≤ gb109)); clear HB; have HB := n0_; have BK109 := n1_; have GW109 := n2_; have GE109 := n3_; clear n0_ n1_ n2_ n3_; clear hb hbox hg; have hcz8_0 : w7.cell? ⟨gb109, 0, none⟩ = some (.int .i64 0) := (blk_cell BK109.out 0).trans rfl; have hcz8_1 : w7.cell? ⟨gb109, 1, none⟩ = some (.int .i64 0) := (blk_cell BK109.out 1).trans rfl; have hfz8_0 := blk_frozen BK109.out 0; have hfz8_1 := blk_frozen BK109.out 1)); go_upto_region 4 with (first | ((with_reducible refine gate_dst (N := 6) rfl ?_); refine box_event ?hg (N := 6) ?hd (cs := #[.int .i64 0, .int .i64 0]) (t := 58) ?hr ?_; (case hd => rfl); (case hg => rfl); (case hr => first | (go_simp; done) | (go_simp; rfl)); intro gb109 hg w7 hbox hb; have n0_ := Aside0.mk (below_step (by repeat (first | (with_reducible first | exact HB.out | apply below_alloc | apply pw_below_drewN | apply below_drew1) | exact HB.out)) hb); have n1_ := Aside0.mk (hbox); have n2_ := Aside0.mk ((by rw [hg]; exact (below_size (by repeat (first | (with_reducible first | exact HB.out | apply below_alloc | apply pw_below_drewN | apply below_drew1) | exact HB.out))) : w.heap.size ≤ gb109)); have n3_ := Aside0.mk ((by rw [hg]; exact (below_size (by repeat (first | (with_reducible first | exact HB.out | apply below_alloc | apply pw_below_drewN | apply below_drew1) | exact HB.out))) : w.heap.size ≤ gb109)); clear HB; have HB := n0_; have BK109 := n1_; have GW109 := n2_; have GE109 := n3_; clear n0_ n1_ n2_ n3_; clear hb hbox hg; have hcz8_0 : w7.cell? ⟨gb109, 0, none⟩ = some (.int .i64 0) := (blk_cell BK109.out 0).trans rfl; have hcz8_1 : w7.cell? ⟨gb109, 1, none⟩ = some (.int .i64 0) := (blk_cell BK109.out 1).trans rfl; have hfz8_0 := blk_frozen BK109.out 0; have hfz8_1 := blk_frozen BK109.out 1)))
      (try simp only [Act.put, List.setIfInBounds_toArray, List.set_cons_zero, List.set_cons_succ])
      go_cut [14] (fun v14 wc => ∃ (kq : Nat) (x14_5 : Bool), v14 = .bool x14_5 ∧ Aside0 (net_checkArcs.j1 kq l0 a1 x9_1 l0 (l0.length : Int) x9_1 x14_5 ((rd_T58 l0 x9_1).f0) ((rd_T58 l0 x9_1).f1) = some r) ∧ Aside0 (kq ≤ k1) ∧ Aside0 (wc.heap[gb109]? = some (.cells #[.int .i64 ((rd_T58 l0 x9_1).f0), .int .i64 ((rd_T58 l0 x9_1).f1)] 58 (0, 0))) ∧ Aside0 (Below w.heap.size w wc))
      case first =>
       have H := HC6.out
       clear HC6
       by_cases c9 : ((rd_T58 l0 x9_1).f0) < 0
       ·
        rw [if_pos c9] at H
        have c9b0 : decide (((rd_T58 l0 x9_1).f0) < 0) = true := decide_eq_true c9
        clear c9
        (first | rw [c9b0] | (simp only [i64_w, i32_w]; rw [c9b0]) | skip)
        have H' := Aside0.mk H
        clear H
        have hcz10_0 : w7.cell? ⟨gb109, 0, none⟩ = some (.int .i64 0) := (blk_cell BK109.out 0).trans rfl
        have hcz10_1 : w7.cell? ⟨gb109, 1, none⟩ = some (.int .i64 0) := (blk_cell BK109.out 1).trans rfl
        have hfz10_0 := blk_frozen BK109.out 0
        have hfz10_1 := blk_frozen BK109.out 1
        go_wp2
        repeat (go_quiet (fail); try go_wp2)
        go_meet
        case rel => exact ⟨_, (true), (by first | rfl | (simp; done) | (simp [*]; done) | (simp [i64_w]; done)), H', ⟨by have := HK1.out; first | omega | exact Nat.le_refl _⟩, ⟨by (with_reducible repeat (first | refine blk_drewN ?_ _ | refine blk_drew ?_ | refine blk_alloc ?_ _)); refine blk_put (cs := #[.int .i64 ((rd_T58 l0 x9_1).f0), .int .i64 0]) ?_ 1 _ rfl; (with_reducible repeat (first | refine blk_drewN ?_ _ | refine blk_drew ?_ | refine blk_alloc ?_ _)); refine blk_put (cs := #[.int .i64 0, .int .i64 0]) ?_ 0 _ rfl; (with_reducible repeat (first | refine blk_drewN ?_ _ | refine blk_drew ?_ | refine blk_alloc ?_ _)); exact BK109.out⟩, ⟨by repeat (first | (with_reducible first | exact HB.out | apply below_alloc | apply pw_below_drewN | apply below_drew1 | refine below_set ?_ GE109.out) | exact HB.out)⟩⟩
       ·
        rw [if_neg c9] at H
        have c9b0 : decide (((rd_T58 l0 x9_1).f0) < 0) = false := decide_eq_false c9
        clear c9
        (first | rw [c9b0] | (simp only [i64_w, i32_w]; rw [c9b0]) | skip)
        have H' := Aside0.mk H
        clear H
        have hcz11_0 : w7.cell? ⟨gb109, 0, none⟩ = some (.int .i64 0) := (blk_cell BK109.out 0).trans rfl
        have hcz11_1 : w7.cell? ⟨gb109, 1, none⟩ = some (.int .i64 0) := (blk_cell BK109.out 1).trans rfl
        have hfz11_0 := blk_frozen BK109.out 0
        have hfz11_1 := blk_frozen BK109.out 1
        go_wp2
        repeat (go_quiet (fail); try go_wp2)
        go_meet
        case rel => exact ⟨_, (decide (((rd_T58 l0 x9_1).f0) ≥ a1)), (by first | rfl | (simp; done) | (simp [*]; done) | (simp [i64_w]; done)), H', ⟨by have := HK1.out; first | omega | exact Nat.le_refl _⟩, ⟨by (with_reducible repeat (first | refine blk_drewN ?_ _ | refine blk_drew ?_ | refine blk_alloc ?_ _)); refine blk_put (cs := #[.int .i64 ((rd_T58 l0 x9_1).f0), .int .i64 0]) ?_ 1 _ rfl; (with_reducible repeat (first | refine blk_drewN ?_ _ | refine blk_drew ?_ | refine blk_alloc ?_ _)); refine blk_put (cs := #[.int .i64 0, .int .i64 0]) ?_ 0 _ rfl; (with_reducible repeat (first | refine blk_drewN ?_ _ | refine blk_drew ?_ | refine blk_alloc ?_ _)); exact BK109.out⟩, ⟨by repeat (first | (with_reducible first | exact HB.out | apply below_alloc | apply pw_below_drewN | apply below_drew1 | refine below_set ?_ GE109.out) | exact HB.out)⟩⟩
      case rest =>
       clear HC6
       try clear p1
       try clear q1
       try clear hx1
       try clear p2
       try clear c3
       try clear c3b0
       try clear c4
       try clear c4b0
       try clear c5
       try clear c5b0
       try clear c8
       try clear c9
       try clear c9b0
       try clear p10
       try clear q10
       try clear hx10
       try clear hcz10_0
       try clear hcz10_1
       try clear hcz11_0
       try clear hcz11_1
       try clear hcz8_0
       try clear hcz8_1
       try clear hfz10_0
       try clear hfz10_1
       try clear hfz11_0
       try clear hfz11_1
       try clear hfz8_0
       try clear hfz8_1
       try clear hx108_0
       try clear hx108_1
       try clear p108
       try clear p2
       try clear q108
       obtain ⟨kq, x14_5, rfl, HA, HJ5, BK109, HB⟩ := hcut
       cases kq with
       | zero => exact absurd HA.out (by simp [net_checkArcs.j1])
       | succ kj5 =>
        have H := HA.out
        clear HA
        simp only [net_checkArcs.j1] at H
        by_cases c12 : x14_5 = true
        ·
         subst c12
         have H1 : (some 7) = some r := by rw [if_pos rfl] at H; exact H
         clear H
         have H := H1
         clear H1
         obtain rfl := Option.some.inj H
         go_wp2
         repeat (go_quiet (fail); try go_wp2)
         go_ret
         exact ⟨by first | rfl | (simp [errW_none, errW_some] <;> rfl) | (simp [*, errW_none, errW_some] <;> rfl), by repeat (first | (with_reducible first | exact HB.out | apply below_alloc | apply pw_below_drewN | apply below_drew1 | refine below_set ?_ GE109.out) | exact HB.out)⟩
        ·
         replace c12 := Bool.eq_false_iff.mpr c12
         subst c12
         have H1 : (if x9_1 > 0 then (if 0 ≤ (wrap64 (x9_1 - 1)) then (if (wrap64 (x9_1 - 1)) < (l0.length : Int) then (net_checkArcs.j2 kj5 l0 a1 l0 (l0.length : Int) x9_1 (decide (((rd_T58 l0 (wrap64 (x9_1 - 1))).f0) ≥ ((rd_T58 l0 x9_1).f0))) ((rd_T58 l0 x9_1).f0) ((rd_T58 l0 x9_1).f1)) else (none)) else (none)) else (net_checkArcs.j2 kj5 l0 a1 l0 (l0.length : Int) x9_1 false ((rd_T58 l0 x9_1).f0) ((rd_T58 l0 x9_1).f1))) = some r := by rw [if_neg (show ¬ (false = true) by decide)] at H; exact H
         clear H
         have H := H1
         clear H1
         have HC13 := Aside0.mk H
         clear H
         go_upto_region 6 with (fail)
         repeat (go_quiet (fail); go_upto_region 6 with (fail))
         go_cut [24] (fun v24 wc => ∃ (kq : Nat) (x24_12 : Bool), v24 = .bool x24_12 ∧ Aside0 (net_checkArcs.j2 kq l0 a1 l0 (l0.length : Int) x9_1 x24_12 ((rd_T58 l0 x9_1).f0) ((rd_T58 l0 x9_1).f1) = some r) ∧ Aside0 (kq ≤ kj5) ∧ Aside0 (wc.heap[gb109]? = some (.cells #[.int .i64 ((rd_T58 l0 x9_1).f0), .int .i64 ((rd_T58 l0 x9_1).f1)] 58 (0, 0))) ∧ Aside0 (Below w.heap.size w wc))
         case first =>
          have H := HC13.out
          clear HC13
          by_cases c14 : x9_1 > 0
          ·
           rw [if_pos c14] at H
           have c14b0 : decide (0 < x9_1) = true := decide_eq_true c14
           clear c14
           (first | rw [c14b0] | (simp only [i64_w, i32_w]; rw [c14b0]) | skip)
           obtain ⟨ji15, hji15⟩ : ∃ j_ : Int, (wrap64 (x9_1 - 1)) = j_ := ⟨_, rfl⟩
           replace H : (if 0 ≤ (ji15) then (if (ji15) < (l0.length : Int) then (net_checkArcs.j2 kj5 l0 a1 l0 (l0.length : Int) x9_1 (decide (((rd_T58 l0 (ji15)).f0) ≥ ((rd_T58 l0 x9_1).f0))) ((rd_T58 l0 x9_1).f0) ((rd_T58 l0 x9_1).f1)) else (none)) else (none)) = some r := by first | (rw [hji15] at H; exact H) | (simp only [hji15] at H ⊢; exact H)
           have hji15w : (IntKind.i64.wrap (x9_1 - 1)) = ji15 := (i64_w _).trans hji15
           by_cases c16 : 0 ≤ (ji15)
           ·
            rw [if_pos c16] at H
            have c16b0 : decide (0 ≤ (ji15)) = true := decide_eq_true c16
            clear c16
            by_cases c17 : (ji15) < (l0.length : Int)
            ·
             rw [if_pos c17] at H
             have c17b0 : decide ((ji15) < (l0.length : Int)) = true := decide_eq_true c17
             clear c17
             have H' := Aside0.mk H
             clear H
             have p110 : 0 ≤ ((ji15) : Int) := of_decide_eq_true (by first | (with_reducible assumption) | assumption)
             have q110 : (ji15) < (l0.length : Int) := of_decide_eq_true (by first | (with_reducible assumption) | assumption)
             obtain ⟨ad110, e110, hx110_0, hx110_1⟩ := at_T58 HR0.out (ji15) p110 q110
             obtain rfl : ad108 = ad110 := (by injection e110)
             replace hx110_0 := (HB.out.cell (World.block_lt_of_cell? w _ hx110_0)).trans hx110_0
             replace hx110_1 := (HB.out.cell (World.block_lt_of_cell? w _ hx110_1)).trans hx110_1
             replace p110 := eq_true p110
             replace q110 := eq_true q110
             have hcz18_0 : wc.cell? ⟨gb109, 0, none⟩ = some (.int .i64 ((rd_T58 l0 x9_1).f0)) := (blk_cell BK109.out 0).trans rfl
             have hcz18_1 : wc.cell? ⟨gb109, 1, none⟩ = some (.int .i64 ((rd_T58 l0 x9_1).f1)) := (blk_cell BK109.out 1).trans rfl
             have hfz18_0 := blk_frozen BK109.out 0
             have hfz18_1 := blk_frozen BK109.out 1
             go_wp2
             repeat (go_quiet (fail); try go_wp2)
             go_meet
             case rel => exact ⟨_, (decide (((rd_T58 l0 (ji15)).f0) ≥ ((rd_T58 l0 x9_1).f0))), (by first | rfl | (simp; done) | (simp only [← hji15] <;> (first | rfl | simp)) | (simp [*]; done)), H', ⟨by have := HK1.out; have := HJ5.out; first | omega | exact Nat.le_refl _⟩, ⟨by (with_reducible repeat (first | refine blk_drewN ?_ _ | refine blk_drew ?_ | refine blk_alloc ?_ _)); exact BK109.out⟩, ⟨by repeat (first | (with_reducible first | exact HB.out | apply below_alloc | apply pw_below_drewN | apply below_drew1 | refine below_set ?_ GE109.out) | exact HB.out)⟩⟩
            ·
             rw [if_neg c17] at H
             exact absurd H (by simp)
           ·
            rw [if_neg c16] at H
            exact absurd H (by simp)
          ·
           rw [if_neg c14] at H
           have c14b0 : decide (0 < x9_1) = false := decide_eq_false c14
           clear c14
           (first | rw [c14b0] | (simp only [i64_w, i32_w]; rw [c14b0]) | skip)
           have H' := Aside0.mk H
           clear H
           go_wp2
           repeat (go_quiet (fail); try go_wp2)
           go_meet
           case rel => exact ⟨_, (false), (by first | rfl | (simp; done) | (simp [*]; done) | (simp [i64_w]; done)), H', ⟨by have := HK1.out; have := HJ5.out; first | omega | exact Nat.le_refl _⟩, ⟨by (with_reducible repeat (first | refine blk_drewN ?_ _ | refine blk_drew ?_ | refine blk_alloc ?_ _)); exact BK109.out⟩, ⟨by repeat (first | (with_reducible first | exact HB.out | apply below_alloc | apply pw_below_drewN | apply below_drew1 | refine below_set ?_ GE109.out) | exact HB.out)⟩⟩
         case rest =>
          clear HC13
          try clear c1
          try clear p1
          try clear q1
          try clear hx1
          try clear p2
          try clear c3
          try clear c3b0
          try clear c4
          try clear c4b0
          try clear c5
          try clear c5b0
          try clear p6
          try clear c8
          try clear c9
          try clear c9b0
          try clear p10
          try clear q10
          try clear hx10
          try clear p11
          try clear q11
          try clear hx11
          try clear c12
          try clear c14
          try clear c14b0
          try clear c16
          try clear c16b0
          try clear c17
          try clear c17b0
          try clear hcz10_0
          try clear hcz10_1
          try clear hcz11_0
          try clear hcz11_1
          try clear hcz18_0
          try clear hcz18_1
          try clear hcz8_0
          try clear hcz8_1
          try clear hfz10_0
          try clear hfz10_1
          try clear hfz11_0
          try clear hfz11_1
          try clear hfz18_0
          try clear hfz18_1
          try clear hfz8_0
          try clear hfz8_1
          try clear hx108_0
          try clear hx108_1
          try clear hx110_0
          try clear hx110_1
          try clear p1
          try clear p10
          try clear p108
          try clear p110
          try clear p2
          try clear q1
          try clear q10
          try clear q108
          try clear q110
          obtain ⟨kq, x24_12, rfl, HA, HJ12, BK109, HB⟩ := hcut
          cases kq with
          | zero => exact absurd HA.out (by simp [net_checkArcs.j2])
          | succ kj12 =>
           have H := HA.out
           clear HA
           simp only [net_checkArcs.j2] at H
           by_cases c19 : x24_12 = true
           ·
            subst c19
            have H1 : (some 8) = some r := by rw [if_pos rfl] at H; exact H
            clear H
            have H := H1
            clear H1
            obtain rfl := Option.some.inj H
            go_wp2
            repeat (go_quiet (fail); try go_wp2)
            go_ret
            exact ⟨by first | rfl | (simp [errW_none, errW_some] <;> rfl) | (simp [*, errW_none, errW_some] <;> rfl), by repeat (first | (with_reducible first | exact HB.out | apply below_alloc | apply pw_below_drewN | apply below_drew1 | refine below_set ?_ GE109.out) | exact HB.out)⟩
           ·
            replace c19 := Bool.eq_false_iff.mpr c19
            subst c19
            have H1 : (if ((rd_T58 l0 x9_1).f1) < 1 then (some 9) else (if ((rd_T58 l0 x9_1).f1) > 99 then (some 9) else (net_checkArcs.l0 kj12 l0 a1 l0 (l0.length : Int) (wrap64 (x9_1 + 1))))) = some r := by rw [if_neg (show ¬ (false = true) by decide)] at H; exact H
            clear H
            have H := H1
            clear H1
            by_cases c20 : ((rd_T58 l0 x9_1).f1) < 1
            ·
             rw [if_pos c20] at H
             have c20b0 : decide (((rd_T58 l0 x9_1).f1) < 1) = true := decide_eq_true c20
             clear c20
             obtain rfl := Option.some.inj H
             have hcz21_0 : wc.cell? ⟨gb109, 0, none⟩ = some (.int .i64 ((rd_T58 l0 x9_1).f0)) := (blk_cell BK109.out 0).trans rfl
             have hcz21_1 : wc.cell? ⟨gb109, 1, none⟩ = some (.int .i64 ((rd_T58 l0 x9_1).f1)) := (blk_cell BK109.out 1).trans rfl
             have hfz21_0 := blk_frozen BK109.out 0
             have hfz21_1 := blk_frozen BK109.out 1
             go_wp2
             repeat (go_quiet (fail); try go_wp2)
             go_ret
             exact ⟨by first | rfl | (simp [errW_none, errW_some] <;> rfl) | (simp [*, errW_none, errW_some] <;> rfl), by repeat (first | (with_reducible first | exact HB.out | apply below_alloc | apply pw_below_drewN | apply below_drew1 | refine below_set ?_ GE109.out) | exact HB.out)⟩
            ·
             rw [if_neg c20] at H
             have c20b0 : decide (((rd_T58 l0 x9_1).f1) < 1) = false := decide_eq_false c20
             clear c20
             by_cases c22 : ((rd_T58 l0 x9_1).f1) > 99
             ·
              rw [if_pos c22] at H
              have c22b0 : decide (99 < ((rd_T58 l0 x9_1).f1)) = true := decide_eq_true c22
              clear c22
              obtain rfl := Option.some.inj H
              have hcz23_0 : wc.cell? ⟨gb109, 0, none⟩ = some (.int .i64 ((rd_T58 l0 x9_1).f0)) := (blk_cell BK109.out 0).trans rfl
              have hcz23_1 : wc.cell? ⟨gb109, 1, none⟩ = some (.int .i64 ((rd_T58 l0 x9_1).f1)) := (blk_cell BK109.out 1).trans rfl
              have hfz23_0 := blk_frozen BK109.out 0
              have hfz23_1 := blk_frozen BK109.out 1
              go_wp2
              repeat (go_quiet (fail); try go_wp2)
              go_ret
              exact ⟨by first | rfl | (simp [errW_none, errW_some] <;> rfl) | (simp [*, errW_none, errW_some] <;> rfl), by repeat (first | (with_reducible first | exact HB.out | apply below_alloc | apply pw_below_drewN | apply below_drew1 | refine below_set ?_ GE109.out) | exact HB.out)⟩
             ·
              rw [if_neg c22] at H
              have c22b0 : decide (99 < ((rd_T58 l0 x9_1).f1)) = false := decide_eq_false c22
              clear c22
              have H' := Aside0.mk H
              clear H
              have hcz24_0 : wc.cell? ⟨gb109, 0, none⟩ = some (.int .i64 ((rd_T58 l0 x9_1).f0)) := (blk_cell BK109.out 0).trans rfl
              have hcz24_1 : wc.cell? ⟨gb109, 1, none⟩ = some (.int .i64 ((rd_T58 l0 x9_1).f1)) := (blk_cell BK109.out 1).trans rfl
              have hfz24_0 := blk_frozen BK109.out 0
              have hfz24_1 := blk_frozen BK109.out 1
              go_wp2
              repeat (go_quiet (fail); try go_wp2)
              go_roundg kj12
              case measure => have := HK1.out; have := HJ5.out; have := HJ12.out; omega
              case rel => exact ⟨(wrap64 (x9_1 + 1)), (by first | rfl | (simp; done) | (simp [*]; done) | (simp [i64_w]; done)), H', ⟨by have := HK1.out; have := HJ5.out; have := HJ12.out; omega⟩, ⟨by repeat (first | (with_reducible first | exact HB.out | apply below_alloc | apply pw_below_drewN | apply below_drew1 | refine below_set ?_ GE109.out) | exact HB.out)⟩⟩
     ·
      rw [if_neg c5] at H
      exact absurd H (by simp)
    ·
     rw [if_neg c4] at H
     exact absurd H (by simp)
   ·
    rw [if_neg c3] at H
    have c3b0 : decide (x9_1 < (l0.length : Int)) = false := decide_eq_false c3
    clear c3
    obtain rfl := Option.some.inj H
    go_wp2
    repeat (go_quiet (fail); try go_wp2)
    go_ret
    exact ⟨by first | rfl | (simp [errW_none, errW_some] <;> rfl) | (simp [*, errW_none, errW_some] <;> rfl), by repeat (first | (with_reducible first | exact HB.out | apply below_alloc | apply pw_below_drewN | apply below_drew1) | exact HB.out)⟩


/-! ### net_checkTrans: function 73 -/
mutual
def net_checkTrans.j0 : Nat → Int → Bool → ByteArray → List (S58) → List (S58) → List (S58) → Int → Option (Int)
 | 0, _, _, _, _, _, _, _ => none
 | k + 1, x1, x15, x112000, x112001, x112002, x112003, x112004 => if x15 = true then (some 1) else ((some (([x112001, x112002, x112003] : List (List (S58))) : List (List (S58)))).bind fun y112 => (net_checkTrans.l0 k x1 y112 (y112.length : Int) 0))
def net_checkTrans.l0 : Nat → Int → List (List (S58)) → Int → Int → Option (Int)
 | 0, _, _, _, _ => none
 | k + 1, x1, x22, x23, x24 => if x24 < x23 then (if 0 ≤ x24 then (if x24 < (x22.length : Int) then ((net_checkArcs.f k (rd_L5 x22 x24) x1).bind fun t116 => (if t116 = 0 then (net_checkTrans.l0 k x1 x22 x23 (wrap64 (x24 + 1))) else (some t116))) else (none)) else (none)) else (some 0)
end
def net_checkTrans.f (k : Nat) (a0_0 : ByteArray) (l0_1 : List (S58)) (l0_2 : List (S58)) (l0_3 : List (S58)) (a0_4 : Int) (a1 : Int) : Option (Int) := if a0_4 < 0 then (net_checkTrans.j0 k a1 true a0_0 l0_1 l0_2 l0_3 a0_4) else (net_checkTrans.j0 k a1 (decide (a0_4 > 9)) a0_0 l0_1 l0_2 l0_3 a0_4)
theorem net_checkTrans.mono_l : ∀ k, (∀ y0 y1 y2 y3 y4 y5 y6, LeO (net_checkTrans.j0 k y0 y1 y2 y3 y4 y5 y6) (net_checkTrans.j0 (k + 1) y0 y1 y2 y3 y4 y5 y6)) ∧ (∀ y0 y1 y2 y3, LeO (net_checkTrans.l0 k y0 y1 y2 y3) (net_checkTrans.l0 (k + 1) y0 y1 y2 y3))
 | 0 => ⟨fun _ _ _ _ _ _ _ r h => by simp [net_checkTrans.j0] at h, fun _ _ _ _ r h => by simp [net_checkTrans.l0] at h⟩
 | k + 1 => by
  obtain ⟨ih0, ih1⟩ := net_checkTrans.mono_l k
  refine ⟨?_, ?_⟩
  ·
   intro y0 y1 y2 y3 y4 y5 y6
   unfold net_checkTrans.j0
   repeat' first
   | (with_reducible exact ih0 _ _ _ _ _ _ _)
   | (with_reducible exact ih1 _ _ _ _)
   | (with_reducible exact net_checkArcs.mono _ _ _)
   | (with_reducible exact LeO.refl _)
   | (with_reducible exact LeO.none _)
   | (with_reducible refine LeO.ite ?_ ?_)
   | (with_reducible refine LeO.bind ?_ (fun _ => ?_))
   | exact ih0 _ _ _ _ _ _ _
   | exact ih1 _ _ _ _
   | exact net_checkArcs.mono _ _ _
   | exact LeO.none _
   | refine LeO.ite ?_ ?_
   | refine LeO.bind ?_ (fun _ => ?_)
  ·
   intro y0 y1 y2 y3
   unfold net_checkTrans.l0
   repeat' first
   | (with_reducible exact ih0 _ _ _ _ _ _ _)
   | (with_reducible exact ih1 _ _ _ _)
   | (with_reducible exact net_checkArcs.mono _ _ _)
   | (with_reducible exact LeO.refl _)
   | (with_reducible exact LeO.none _)
   | (with_reducible refine LeO.ite ?_ ?_)
   | (with_reducible refine LeO.bind ?_ (fun _ => ?_))
   | exact ih0 _ _ _ _ _ _ _
   | exact ih1 _ _ _ _
   | exact net_checkArcs.mono _ _ _
   | exact LeO.none _
   | refine LeO.ite ?_ ?_
   | refine LeO.bind ?_ (fun _ => ?_)
theorem net_checkTrans.mono : ∀ a0 a1 a2 a3 a4 a5 k, LeO (net_checkTrans.f k a0 a1 a2 a3 a4 a5) (net_checkTrans.f (k + 1) a0 a1 a2 a3 a4 a5) := by
 intro a0 a1 a2 a3 a4 a5 k
 obtain ⟨ih0, ih1⟩ := net_checkTrans.mono_l k
 unfold net_checkTrans.f
 repeat' first
   | (with_reducible exact ih0 _ _ _ _ _ _ _)
   | (with_reducible exact ih1 _ _ _ _)
   | (with_reducible exact net_checkArcs.mono _ _ _)
   | (with_reducible exact LeO.refl _)
   | (with_reducible exact LeO.none _)
   | (with_reducible refine LeO.ite ?_ ?_)
   | (with_reducible refine LeO.bind ?_ (fun _ => ?_))
   | exact ih0 _ _ _ _ _ _ _
   | exact ih1 _ _ _ _
   | exact net_checkArcs.mono _ _ _
   | exact LeO.none _
   | refine LeO.ite ?_ ?_
   | refine LeO.bind ?_ (fun _ => ?_)
set_option maxHeartbeats 8000000 in
set_option maxRecDepth 100000 in
theorem net_checkTrans.calls (k : Nat) (a0_0 : ByteArray) (P0_1_ : Nat → Prop) (A0_1 : Option Addr) (c0_1 : Nat) (l0_1 : List (S58)) (P0_2_ : Nat → Prop) (A0_2 : Option Addr) (c0_2 : Nat) (l0_2 : List (S58)) (P0_3_ : Nat → Prop) (A0_3 : Option Addr) (c0_3 : Nat) (l0_3 : List (S58)) (a0_4 : Int) (a1 : Int) (r : Int) (w : World) (hs0_1 : Kd.V k58 58 w w.heap.size (fun k_ => P0_1_ k_) (.slice A0_1 l0_1.length c0_1) l0_1) (hs0_2 : Kd.V k58 58 w w.heap.size (fun k_ => P0_2_ k_) (.slice A0_2 l0_2.length c0_2) l0_2) (hs0_3 : Kd.V k58 58 w w.heap.size (fun k_ => P0_3_ k_) (.slice A0_3 l0_3.length c0_3) l0_3) (h : net_checkTrans.f k a0_0 l0_1 l0_2 l0_3 a0_4 a1 = some r) :
  Calls Try.prog 73 #[.agg #[.string a0_0, .slice A0_1 l0_1.length c0_1, .slice A0_2 l0_2.length c0_2, .slice A0_3 l0_3.length c0_3, .int .i64 a0_4], .int .i64 a1] w fun e w' => e = .returned (.int .i64 r) ∧ Below w.heap.size w w' := by
 have hu40 := Try.underlying40
 have hu3 := Try.underlying3
 have hu9 := Try.underlying9
 have hu38 := Try.underlying38
 have HO0_1 := Aside0.mk (show Kd.V k58 58 w w.heap.size (fun k_ => ((P0_1_ k_ ∨ P0_2_ k_ ∨ P0_3_ k_) ∨ w.heap.size ≤ k_)) (.slice A0_1 l0_1.length c0_1) l0_1 from Kd.V_mono hs0_1 (fun k_ hk => .inl (.inl hk)))
 have HO0_2 := Aside0.mk (show Kd.V k58 58 w w.heap.size (fun k_ => ((P0_1_ k_ ∨ P0_2_ k_ ∨ P0_3_ k_) ∨ w.heap.size ≤ k_)) (.slice A0_2 l0_2.length c0_2) l0_2 from Kd.V_mono hs0_2 (fun k_ hk => .inl (.inr (.inl hk))))
 have HO0_3 := Aside0.mk (show Kd.V k58 58 w w.heap.size (fun k_ => ((P0_1_ k_ ∨ P0_2_ k_ ∨ P0_3_ k_) ∨ w.heap.size ≤ k_)) (.slice A0_3 l0_3.length c0_3) l0_3 from Kd.V_mono hs0_3 (fun k_ hk => .inl (.inr (.inr hk))))
 have HB := Aside0.mk (Below.refl w.heap.size w)
 have H : (if a0_4 < 0 then (net_checkTrans.j0 k a1 true a0_0 l0_1 l0_2 l0_3 a0_4) else (net_checkTrans.j0 k a1 (decide (a0_4 > 9)) a0_0 l0_1 l0_2 l0_3 a0_4)) = some r := h
 clear h
 have HC3 := Aside0.mk H
 clear H
 go_enter Try.func73, Try.ntmps73
 go_upto_region 1 with (first | ((with_reducible refine gate_dst (N := 2) rfl ?_); refine box_event ?hg (N := 2) ?hd (cs := #[.string a0_0, .slice A0_1 l0_1.length c0_1, .slice A0_2 l0_2.length c0_2, .slice A0_3 l0_3.length c0_3, .int .i64 a0_4]) (t := 40) ?hr ?_; (case hd => rfl); (case hg => rfl); (case hr => first | (go_simp; done) | (go_simp; rfl)); intro gb111 hg w4 hbox hb; have n0_ := Aside0.mk (Kd.V_below (Kd.V_elderB (by (with_reducible repeat (first | apply Kd.V_alloc | apply Kd.V_drewN | apply Kd.V_drew)); exact HO0_1.out) gb111 (Nat.le_of_eq hg.symm)) hb); have n1_ := Aside0.mk (Kd.V_below (Kd.V_elderB (by (with_reducible repeat (first | apply Kd.V_alloc | apply Kd.V_drewN | apply Kd.V_drew)); exact HO0_2.out) gb111 (Nat.le_of_eq hg.symm)) hb); have n2_ := Aside0.mk (Kd.V_below (Kd.V_elderB (by (with_reducible repeat (first | apply Kd.V_alloc | apply Kd.V_drewN | apply Kd.V_drew)); exact HO0_3.out) gb111 (Nat.le_of_eq hg.symm)) hb); have n3_ := Aside0.mk (below_step (by repeat (first | (with_reducible first | exact HB.out | apply below_alloc | apply pw_below_drewN | apply below_drew1) | exact HB.out)) hb); have n4_ := Aside0.mk (hbox); have n5_ := Aside0.mk ((by rw [hg]; exact (below_size (by repeat (first | (with_reducible first | exact HB.out | apply below_alloc | apply pw_below_drewN | apply below_drew1) | exact HB.out))) : w.heap.size ≤ gb111)); have n6_ := Aside0.mk ((by rw [hg]; exact (below_size (by repeat (first | (with_reducible first | exact HB.out | apply below_alloc | apply pw_below_drewN | apply below_drew1) | exact HB.out))) : w.heap.size ≤ gb111)); clear HO0_1; clear HO0_2; clear HO0_3; clear HB; have HO0_1 := n0_; have HO0_2 := n1_; have HO0_3 := n2_; have HB := n3_; have BK111 := n4_; have GW111 := n5_; have GE111 := n6_; clear n0_ n1_ n2_ n3_ n4_ n5_ n6_; clear hb hbox hg))
 (try simp only [Act.put, List.setIfInBounds_toArray, List.set_cons_zero, List.set_cons_succ])
 go_cut [15] (fun v15 wc => ∃ (kq : Nat) (x15_2 : Bool), v15 = .bool x15_2 ∧ Aside0 (net_checkTrans.j0 kq a1 x15_2 a0_0 l0_1 l0_2 l0_3 a0_4 = some r) ∧ Aside0 (kq ≤ k) ∧ Aside0 (Kd.V k58 58 wc w.heap.size (fun k_ => ((P0_1_ k_ ∨ P0_2_ k_ ∨ P0_3_ k_) ∨ w.heap.size ≤ k_) ∧ k_ ≠ gb111) (.slice A0_1 l0_1.length c0_1) l0_1) ∧ Aside0 (Kd.V k58 58 wc w.heap.size (fun k_ => ((P0_1_ k_ ∨ P0_2_ k_ ∨ P0_3_ k_) ∨ w.heap.size ≤ k_) ∧ k_ ≠ gb111) (.slice A0_2 l0_2.length c0_2) l0_2) ∧ Aside0 (Kd.V k58 58 wc w.heap.size (fun k_ => ((P0_1_ k_ ∨ P0_2_ k_ ∨ P0_3_ k_) ∨ w.heap.size ≤ k_) ∧ k_ ≠ gb111) (.slice A0_3 l0_3.length c0_3) l0_3) ∧ Aside0 (wc.heap[gb111]? = some (.cells #[.string a0_0, (.slice A0_1 l0_1.length c0_1), (.slice A0_2 l0_2.length c0_2), (.slice A0_3 l0_3.length c0_3), .int .i64 a0_4] 40 (0, 0))) ∧ Aside0 (Below w.heap.size w wc))
 case first =>
  have H := HC3.out
  clear HC3
  by_cases c5 : a0_4 < 0
  ·
   rw [if_pos c5] at H
   have c5b0 : decide (a0_4 < 0) = true := decide_eq_true c5
   clear c5
   (first | rw [c5b0] | (simp only [i64_w, i32_w]; rw [c5b0]) | skip)
   have H' := Aside0.mk H
   clear H
   have hcz6_0 : w4.cell? ⟨gb111, 0, none⟩ = some (.string a0_0) := (blk_cell BK111.out 0).trans rfl
   have hcz6_1 : w4.cell? ⟨gb111, 1, none⟩ = some (.slice A0_1 l0_1.length c0_1) := (blk_cell BK111.out 1).trans rfl
   have hcz6_2 : w4.cell? ⟨gb111, 2, none⟩ = some (.slice A0_2 l0_2.length c0_2) := (blk_cell BK111.out 2).trans rfl
   have hcz6_3 : w4.cell? ⟨gb111, 3, none⟩ = some (.slice A0_3 l0_3.length c0_3) := (blk_cell BK111.out 3).trans rfl
   have hcz6_4 : w4.cell? ⟨gb111, 4, none⟩ = some (.int .i64 a0_4) := (blk_cell BK111.out 4).trans rfl
   have hfz6_0 := blk_frozen BK111.out 0
   have hfz6_1 := blk_frozen BK111.out 1
   have hfz6_2 := blk_frozen BK111.out 2
   have hfz6_3 := blk_frozen BK111.out 3
   have hfz6_4 := blk_frozen BK111.out 4
   go_wp2
   go_meet
   case rel => exact ⟨_, (true), (by first | rfl | (simp; done) | (simp [*]; done) | (simp [i64_w]; done)), H', ⟨by first | omega | exact Nat.le_refl _⟩, ⟨by (with_reducible repeat (first | apply Kd.V_alloc | apply Kd.V_drewN | apply Kd.V_drew)); exact HO0_1.out⟩, ⟨by (with_reducible repeat (first | apply Kd.V_alloc | apply Kd.V_drewN | apply Kd.V_drew)); exact HO0_2.out⟩, ⟨by (with_reducible repeat (first | apply Kd.V_alloc | apply Kd.V_drewN | apply Kd.V_drew)); exact HO0_3.out⟩, ⟨by (with_reducible repeat (first | refine blk_drewN ?_ _ | refine blk_drew ?_ | refine blk_alloc ?_ _)); exact BK111.out⟩, ⟨by repeat (first | (with_reducible first | exact HB.out | apply below_alloc | apply pw_below_drewN | apply below_drew1 | refine below_set ?_ GE111.out) | exact HB.out)⟩⟩
  ·
   rw [if_neg c5] at H
   have c5b0 : decide (a0_4 < 0) = false := decide_eq_false c5
   clear c5
   (first | rw [c5b0] | (simp only [i64_w, i32_w]; rw [c5b0]) | skip)
   have H' := Aside0.mk H
   clear H
   have hcz7_0 : w4.cell? ⟨gb111, 0, none⟩ = some (.string a0_0) := (blk_cell BK111.out 0).trans rfl
   have hcz7_1 : w4.cell? ⟨gb111, 1, none⟩ = some (.slice A0_1 l0_1.length c0_1) := (blk_cell BK111.out 1).trans rfl
   have hcz7_2 : w4.cell? ⟨gb111, 2, none⟩ = some (.slice A0_2 l0_2.length c0_2) := (blk_cell BK111.out 2).trans rfl
   have hcz7_3 : w4.cell? ⟨gb111, 3, none⟩ = some (.slice A0_3 l0_3.length c0_3) := (blk_cell BK111.out 3).trans rfl
   have hcz7_4 : w4.cell? ⟨gb111, 4, none⟩ = some (.int .i64 a0_4) := (blk_cell BK111.out 4).trans rfl
   have hfz7_0 := blk_frozen BK111.out 0
   have hfz7_1 := blk_frozen BK111.out 1
   have hfz7_2 := blk_frozen BK111.out 2
   have hfz7_3 := blk_frozen BK111.out 3
   have hfz7_4 := blk_frozen BK111.out 4
   go_wp2
   go_meet
   case rel => exact ⟨_, (decide (a0_4 > 9)), (by first | rfl | (simp; done) | (simp [*]; done) | (simp [i64_w]; done)), H', ⟨by first | omega | exact Nat.le_refl _⟩, ⟨by (with_reducible repeat (first | apply Kd.V_alloc | apply Kd.V_drewN | apply Kd.V_drew)); exact HO0_1.out⟩, ⟨by (with_reducible repeat (first | apply Kd.V_alloc | apply Kd.V_drewN | apply Kd.V_drew)); exact HO0_2.out⟩, ⟨by (with_reducible repeat (first | apply Kd.V_alloc | apply Kd.V_drewN | apply Kd.V_drew)); exact HO0_3.out⟩, ⟨by (with_reducible repeat (first | refine blk_drewN ?_ _ | refine blk_drew ?_ | refine blk_alloc ?_ _)); exact BK111.out⟩, ⟨by repeat (first | (with_reducible first | exact HB.out | apply below_alloc | apply pw_below_drewN | apply below_drew1 | refine below_set ?_ GE111.out) | exact HB.out)⟩⟩
 case rest =>
  clear HC3
  try clear p2
  try clear c5
  try clear c5b0
  try clear c7
  try clear hcz6_0
  try clear hcz6_1
  try clear hcz6_2
  try clear hcz6_3
  try clear hcz6_4
  try clear hcz7_0
  try clear hcz7_1
  try clear hcz7_2
  try clear hcz7_3
  try clear hcz7_4
  try clear hfz6_0
  try clear hfz6_1
  try clear hfz6_2
  try clear hfz6_3
  try clear hfz6_4
  try clear hfz7_0
  try clear hfz7_1
  try clear hfz7_2
  try clear hfz7_3
  try clear hfz7_4
  obtain ⟨kq, x15_2, rfl, HA, HJ2, HO_112001, HO_112002, HO_112003, BK111, HB⟩ := hcut
  cases kq with
  | zero => exact absurd HA.out (by simp [net_checkTrans.j0])
  | succ kj2 =>
   have H := HA.out
   clear HA
   simp only [net_checkTrans.j0] at H
   by_cases c8 : x15_2 = true
   ·
    subst c8
    have H1 : (some 1) = some r := by rw [if_pos rfl] at H; exact H
    clear H
    have H := H1
    clear H1
    obtain rfl := Option.some.inj H
    go_wp2
    go_ret
    exact ⟨by first | rfl | (simp [errW_none, errW_some] <;> rfl) | (simp [*, errW_none, errW_some] <;> rfl), by repeat (first | (with_reducible first | exact HB.out | apply below_alloc | apply pw_below_drewN | apply below_drew1 | refine below_set ?_ GE111.out) | exact HB.out)⟩
   ·
    replace c8 := Bool.eq_false_iff.mpr c8
    subst c8
    have H1 : ((some (([l0_1, l0_2, l0_3] : List (List (S58))) : List (List (S58)))).bind fun y112 => (net_checkTrans.l0 kj2 a1 y112 (y112.length : Int) 0)) = some r := by rw [if_neg (show ¬ (false = true) by decide)] at H; exact H
    clear H
    have H := H1
    clear H1
    obtain ⟨y112, hy112⟩ : ∃ y_ : List (List (S58)), y_ = (([l0_1, l0_2, l0_3] : List (List (S58)))) := ⟨_, rfl⟩
    replace H : (net_checkTrans.l0 kj2 a1 y112 (y112.length : Int) 0) = some r := by first | (rw [hy112]; with_reducible exact H) | (have H2_ := (Option.bind_some _ _).symm.trans H; rw [hy112]; with_reducible exact H2_) | (have H2_ := (Option.bind_some _ _).symm.trans H; with_reducible exact H2_) | with_reducible exact H | (rw [hy112]; exact H) | exact H
    have Ny112 := Aside0.mk hy112
    clear hy112
    have H' := Aside0.mk H
    clear H
    have hcz9_0 : wc.cell? ⟨gb111, 0, none⟩ = some (.string a0_0) := (blk_cell BK111.out 0).trans rfl
    have hcz9_1 : wc.cell? ⟨gb111, 1, none⟩ = some (.slice A0_1 l0_1.length c0_1) := (blk_cell BK111.out 1).trans rfl
    have hcz9_2 : wc.cell? ⟨gb111, 2, none⟩ = some (.slice A0_2 l0_2.length c0_2) := (blk_cell BK111.out 2).trans rfl
    have hcz9_3 : wc.cell? ⟨gb111, 3, none⟩ = some (.slice A0_3 l0_3.length c0_3) := (blk_cell BK111.out 3).trans rfl
    have hcz9_4 : wc.cell? ⟨gb111, 4, none⟩ = some (.int .i64 a0_4) := (blk_cell BK111.out 4).trans rfl
    have hfz9_0 := blk_frozen BK111.out 0
    have hfz9_1 := blk_frozen BK111.out 1
    have hfz9_2 := blk_frozen BK111.out 2
    have hfz9_3 := blk_frozen BK111.out 3
    have hfz9_4 := blk_frozen BK111.out 4
    go_wp2_with (first | ((with_reducible refine gate_dst (N := 22) rfl ?_); refine Kd.N_lit (Kd.slice 58 k58) _ 38 ?hg (N' := 22) ?hd (xs := ([l0_1, l0_2, l0_3] : List (List (S58)))) (inner := [.slice A0_1 l0_1.length c0_1, .slice A0_2 l0_2.length c0_2, .slice A0_3 l0_3.length c0_3]) (ok := (fun k_ => ((P0_1_ k_ ∨ P0_2_ k_ ∨ P0_3_ k_) ∨ w.heap.size ≤ k_) ∧ k_ ≠ gb111)) (okp := (fun k_ => ((P0_1_ k_ ∨ P0_2_ k_ ∨ P0_3_ k_) ∨ w.heap.size ≤ k_) ∧ k_ ≠ gb111)) ?hr ?hp (fun _ hk => hk) ((show ∀ k_, wc.heap.size ≤ k_ → (fun k_ => ((P0_1_ k_ ∨ P0_2_ k_ ∨ P0_3_ k_) ∨ w.heap.size ≤ k_) ∧ k_ ≠ gb111) k_ from fun k_ hk => ⟨(.inr (Nat.le_trans (below_size (by repeat (first | (with_reducible first | exact HB.out | apply below_alloc | apply pw_below_drewN | apply below_drew1 | refine below_set ?_ GE111.out) | exact HB.out))) hk)), Kd.freshB (g := gb111) (o := .cells #[.string a0_0, .slice A0_1 l0_1.length c0_1, .slice A0_2 l0_2.length c0_2, .slice A0_3 l0_3.length c0_3, .int .i64 a0_4] 40 (0, 0)) (by (with_reducible repeat (first | refine blk_drewN ?_ _ | refine blk_drew ?_ | refine blk_alloc ?_ _)); exact BK111.out) k_ hk⟩) _ (Nat.le_refl _)) (Below.refl _ _) (Nat.le_refl _) (by simp) ?_; (case hd => rfl); (case hg => rfl); (case hr => first | (go_simp; done) | (go_simp; rfl)); (case hp => exact (Reps.one (show Kd.FK (Kd.slice 58 k58) _ _ l0_1 [.slice A0_1 l0_1.length c0_1] from (Kd.FK_slice_mk (Kd.V_reads' (Kd.V_mono (ok' := (fun k_ => ((P0_1_ k_ ∨ P0_2_ k_ ∨ P0_3_ k_) ∨ w.heap.size ≤ k_) ∧ k_ ≠ gb111)) (HO_112001.out) (fun k_ hk => ⟨hk.1, hk.2⟩))).2.1 (Kd.V_F (Kd.V_mono (ok' := (fun k_ => ((P0_1_ k_ ∨ P0_2_ k_ ∨ P0_3_ k_) ∨ w.heap.size ≤ k_) ∧ k_ ≠ gb111)) (HO_112001.out) (fun k_ hk => ⟨hk.1, hk.2⟩))))) (Reps.one (show Kd.FK (Kd.slice 58 k58) _ _ l0_2 [.slice A0_2 l0_2.length c0_2] from (Kd.FK_slice_mk (Kd.V_reads' (Kd.V_mono (ok' := (fun k_ => ((P0_1_ k_ ∨ P0_2_ k_ ∨ P0_3_ k_) ∨ w.heap.size ≤ k_) ∧ k_ ≠ gb111)) (HO_112002.out) (fun k_ hk => ⟨hk.1, hk.2⟩))).2.1 (Kd.V_F (Kd.V_mono (ok' := (fun k_ => ((P0_1_ k_ ∨ P0_2_ k_ ∨ P0_3_ k_) ∨ w.heap.size ≤ k_) ∧ k_ ≠ gb111)) (HO_112002.out) (fun k_ hk => ⟨hk.1, hk.2⟩))))) (Reps.one (show Kd.FK (Kd.slice 58 k58) _ _ l0_3 [.slice A0_3 l0_3.length c0_3] from (Kd.FK_slice_mk (Kd.V_reads' (Kd.V_mono (ok' := (fun k_ => ((P0_1_ k_ ∨ P0_2_ k_ ∨ P0_3_ k_) ∨ w.heap.size ≤ k_) ∧ k_ ≠ gb111)) (HO_112003.out) (fun k_ hk => ⟨hk.1, hk.2⟩))).2.1 (Kd.V_F (Kd.V_mono (ok' := (fun k_ => ((P0_1_ k_ ∨ P0_2_ k_ ∨ P0_3_ k_) ∨ w.heap.size ≤ k_) ∧ k_ ≠ gb111)) (HO_112003.out) (fun k_ hk => ⟨hk.1, hk.2⟩))))) (Reps.none _ _))))); intro v113 w10 ho11 hb hg_ hnew_; clear hg_ hnew_; (first | rw [← Ny112.out] at ho11 | (simp only [Int.reduceToNat] at ho11; rw [← Ny112.out] at ho11)); have n0_ := Aside0.mk (Kd.V_elder' (by (with_reducible repeat (first | apply Kd.V_alloc | apply Kd.V_drewN | apply Kd.V_drew)); exact HO_112001.out) (Kd.N_base ho11) hb); have n1_ := Aside0.mk (Kd.V_elder' (by (with_reducible repeat (first | apply Kd.V_alloc | apply Kd.V_drewN | apply Kd.V_drew)); exact HO_112002.out) (Kd.N_base ho11) hb); have n2_ := Aside0.mk (Kd.V_elder' (by (with_reducible repeat (first | apply Kd.V_alloc | apply Kd.V_drewN | apply Kd.V_drew)); exact HO_112003.out) (Kd.N_base ho11) hb); have n3_ := Aside0.mk (Kd.N_lower ho11 (below_size (by repeat (first | (with_reducible first | exact HB.out | apply below_alloc | apply pw_below_drewN | apply below_drew1 | refine below_set ?_ GE111.out) | exact HB.out)))); have n4_ := Aside0.mk (blk_below (g := gb111) (o := .cells #[.string a0_0, .slice A0_1 l0_1.length c0_1, .slice A0_2 l0_2.length c0_2, .slice A0_3 l0_3.length c0_3, .int .i64 a0_4] 40 (0, 0)) (by (with_reducible repeat (first | refine blk_drewN ?_ _ | refine blk_drew ?_ | refine blk_alloc ?_ _)); exact BK111.out) hb); have n5_ := Aside0.mk (below_step (by repeat (first | (with_reducible first | exact HB.out | apply below_alloc | apply pw_below_drewN | apply below_drew1 | refine below_set ?_ GE111.out) | exact HB.out)) hb); clear HO_112001; clear HO_112002; clear HO_112003; clear BK111; clear HB; have HO_112001 := n0_; have HO_112002 := n1_; have HO_112003 := n2_; have HO114 := n3_; have BK111 := n4_; have HB := n5_; clear n0_ n1_ n2_ n3_ n4_ n5_; clear hb ho11; obtain ⟨Ao12, co12, eo12⟩ := Kd.N_slice HO114.out; subst eo12))
    go_loopg [24] kj2 (fun kq v24 w' => ∃ (x24_2 : Int), v24 = .int .i64 x24_2 ∧ Aside0 (net_checkTrans.l0 kq a1 y112 (y112.length : Int) x24_2 = some r) ∧ Aside0 (kq ≤ kj2) ∧ Aside0 (Kd.N (Kd.slice 58 k58) 38 w' w.heap.size (fun k_ => ((P0_1_ k_ ∨ P0_2_ k_ ∨ P0_3_ k_) ∨ w.heap.size ≤ k_) ∧ k_ ≠ gb111) (.slice Ao12 y112.length co12) y112) ∧ Aside0 (Kd.V k58 58 w' w.heap.size (fun k_ => ((P0_1_ k_ ∨ P0_2_ k_ ∨ P0_3_ k_) ∨ w.heap.size ≤ k_) ∧ some k_ ≠ ((.slice Ao12 y112.length co12) : Value).ownBlock ∧ k_ ≠ gb111) (.slice A0_1 l0_1.length c0_1) l0_1) ∧ Aside0 (Kd.V k58 58 w' w.heap.size (fun k_ => ((P0_1_ k_ ∨ P0_2_ k_ ∨ P0_3_ k_) ∨ w.heap.size ≤ k_) ∧ some k_ ≠ ((.slice Ao12 y112.length co12) : Value).ownBlock ∧ k_ ≠ gb111) (.slice A0_2 l0_2.length c0_2) l0_2) ∧ Aside0 (Kd.V k58 58 w' w.heap.size (fun k_ => ((P0_1_ k_ ∨ P0_2_ k_ ∨ P0_3_ k_) ∨ w.heap.size ≤ k_) ∧ some k_ ≠ ((.slice Ao12 y112.length co12) : Value).ownBlock ∧ k_ ≠ gb111) (.slice A0_3 l0_3.length c0_3) l0_3) ∧ Aside0 (w'.heap[gb111]? = some (.cells #[.string a0_0, (.slice A0_1 l0_1.length c0_1), (.slice A0_2 l0_2.length c0_2), (.slice A0_3 l0_3.length c0_3), .int .i64 a0_4] 40 (0, 0))) ∧ Aside0 (Below w.heap.size w w'))
    case atStart => exact ⟨(0), (by first | rfl | (simp; done) | (simp [*]; done) | (simp [i64_w]; done)), H', ⟨Nat.le_refl _⟩, ⟨by (with_reducible repeat (first | apply Kd.N_alloc | apply Kd.N_drewN | apply Kd.N_drew)); exact HO114.out⟩, ⟨by (with_reducible repeat (first | apply Kd.V_alloc | apply Kd.V_drewN | apply Kd.V_drew)); exact Kd.V_mono HO_112001.out (fun _ hk => ⟨hk.1.1, ⟨hk.2, hk.1.2⟩⟩)⟩, ⟨by (with_reducible repeat (first | apply Kd.V_alloc | apply Kd.V_drewN | apply Kd.V_drew)); exact Kd.V_mono HO_112002.out (fun _ hk => ⟨hk.1.1, ⟨hk.2, hk.1.2⟩⟩)⟩, ⟨by (with_reducible repeat (first | apply Kd.V_alloc | apply Kd.V_drewN | apply Kd.V_drew)); exact Kd.V_mono HO_112003.out (fun _ hk => ⟨hk.1.1, ⟨hk.2, hk.1.2⟩⟩)⟩, ⟨by (with_reducible repeat (first | refine blk_drewN ?_ _ | refine blk_drew ?_ | refine blk_alloc ?_ _)); exact BK111.out⟩, ⟨by repeat (first | (with_reducible first | exact HB.out | apply below_alloc | apply pw_below_drewN | apply below_drew1 | refine below_set ?_ GE111.out) | exact HB.out)⟩⟩
    case round =>
     clear H'
     try clear p2
     try clear c5
     try clear c5b0
     try clear c7
     try clear c8
     try clear hcz6_0
     try clear hcz6_1
     try clear hcz6_2
     try clear hcz6_3
     try clear hcz6_4
     try clear hcz7_0
     try clear hcz7_1
     try clear hcz7_2
     try clear hcz7_3
     try clear hcz7_4
     try clear hcz9_0
     try clear hcz9_1
     try clear hcz9_2
     try clear hcz9_3
     try clear hcz9_4
     try clear hfz6_0
     try clear hfz6_1
     try clear hfz6_2
     try clear hfz6_3
     try clear hfz6_4
     try clear hfz7_0
     try clear hfz7_1
     try clear hfz7_2
     try clear hfz7_3
     try clear hfz7_4
     try clear hfz9_0
     try clear hfz9_1
     try clear hfz9_2
     try clear hfz9_3
     try clear hfz9_4
     try clear p2
     obtain ⟨x24_2, rfl, HA, HK2, HO_22, HO_112001, HO_112002, HO_112003, BK111, HB⟩ := hrel
     cases gk with
     | zero => exact absurd HA.out (by simp [net_checkTrans.l0])
     | succ k2 =>
      have H := HA.out
      clear HA
      simp only [net_checkTrans.l0] at H
      by_cases c13 : x24_2 < (y112.length : Int)
      ·
       rw [if_pos c13] at H
       have c13b0 : decide (x24_2 < (y112.length : Int)) = true := decide_eq_true c13
       clear c13
       by_cases c14 : 0 ≤ x24_2
       ·
        rw [if_pos c14] at H
        have c14b0 : decide (0 ≤ x24_2) = true := decide_eq_true c14
        clear c14
        by_cases c15 : x24_2 < (y112.length : Int)
        ·
         rw [if_pos c15] at H
         have c15b0 : decide (x24_2 < (y112.length : Int)) = true := decide_eq_true c15
         clear c15
         replace H := Option.bind_eq_some_iff.mp H
         obtain ⟨t116, A160, H⟩ := H
         replace H : (if t116 = 0 then (net_checkTrans.l0 k2 a1 y112 (y112.length : Int) (wrap64 (x24_2 + 1))) else (some t116)) = some r := H
         have A16 := Aside0.mk A160
         clear A160
         by_cases c17 : t116 = 0
         ·
          rw [if_pos c17] at H
          have c17b0 : (t116 == 0) = true := beq_iff_eq.mpr c17
          have c17b1 : (t116 != 0) = false := bne_eq_false_iff_eq.mpr c17
          clear c17
          have H' := Aside0.mk H
          clear H
          have p115 : 0 ≤ (x24_2 : Int) := of_decide_eq_true (by first | (with_reducible assumption) | assumption)
          have q115 : x24_2 < (y112.length : Int) := of_decide_eq_true (by first | (with_reducible assumption) | assumption)
          obtain ⟨ad115, A115_0, c115_0, e115, hx115_0, hl115_0, hi115_0⟩ := at_L5 (Kd.N_reads' HO_22.out).2.2 x24_2 p115 q115
          cases e115
          obtain ⟨ce115, hce115, hMe115, hcc115⟩ := Kd.N_get HO_22.out [] x24_2 p115 (by first | exact q115 | exact of_decide_eq_true (by first | (with_reducible assumption) | assumption) | (have e_ := (Kd.N_reads' HO_22.out).1; omega))
          obtain ⟨ua115_0, uc115_0, rfl, ul115_0, ge115_0⟩ := Kd.FK_slice_open hMe115
          have hv115_0 := hcc115 0 _ rfl
          rw [Nat.add_zero, show ((Kd.slice 58 k58)).sz = 1 from rfl, Nat.mul_one] at hv115_0
          replace hv115_0 := Option.some.inj (hv115_0.symm.trans hx115_0)
          injection hv115_0 with hva_ hvn_ hvc_
          rw [hva_] at ge115_0
          rw [hvc_] at ul115_0
          have HL115_0 := Aside0.mk (show Kd.V k58 58 _ w.heap.size _ _ (rd_L5 y112 x24_2) from Kd.V_mk ul115_0 ge115_0)
          clear hva_ hvn_ hvc_ ge115_0 ul115_0
          clear hcc115 hce115
          have HR115_0 := Aside0.mk hi115_0
          have HC115_0 := Aside0.mk hl115_0
          clear hi115_0 hl115_0
          replace p115 := eq_true p115
          replace q115 := eq_true q115
          go_wp2_with (first | ((with_reducible refine gate_callee (f := 82) rfl ?_); refine goesL_ (some 30) rfl rfl Try.func82 (by kernel_rfl) rfl #[.slice A115_0 (rd_L5 y112 x24_2).length c115_0, .int .i64 a1] rfl (by (try simp only [List.map_toArray, List.map_cons, List.map_nil]); first | done | rfl | (simp only [List.length_drop, List.length_take]; rfl)) ?_; (with_reducible refine (net_checkArcs.calls k2 _ _ (rd_L5 y112 x24_2) a1 t116 _ ?side1 ?side2 A16.out).mono ?_); (case side1 => repeat (first | exact (by repeat (first | (with_reducible exact HR115_0.out) | (with_reducible refine Kd.C_alloc ?_ _) | (with_reducible refine Kd.C_drewN ?_ _) | (with_reducible refine Kd.C_drew ?_) | exact HR115_0.out)) | (with_reducible refine Kd.C_alloc ?_ _) | (with_reducible refine Kd.C_drewN ?_ _) | (with_reducible refine Kd.C_drew ?_))); (case side2 => exact HC115_0.out); rintro e w18 ⟨rfl, hb⟩; refine ⟨_, rfl, ?_⟩; have n0_ := Aside0.mk (Kd.N_below (by (with_reducible repeat (first | apply Kd.N_alloc | apply Kd.N_drewN | apply Kd.N_drew)); exact HO_22.out) hb); have n1_ := Aside0.mk (Kd.V_below (by (with_reducible repeat (first | apply Kd.V_alloc | apply Kd.V_drewN | apply Kd.V_drew)); exact HO_112001.out) hb); have n2_ := Aside0.mk (Kd.V_below (by (with_reducible repeat (first | apply Kd.V_alloc | apply Kd.V_drewN | apply Kd.V_drew)); exact HO_112002.out) hb); have n3_ := Aside0.mk (Kd.V_below (by (with_reducible repeat (first | apply Kd.V_alloc | apply Kd.V_drewN | apply Kd.V_drew)); exact HO_112003.out) hb); have n4_ := Aside0.mk (Kd.V_below (by (with_reducible repeat (first | apply Kd.V_alloc | apply Kd.V_drewN | apply Kd.V_drew)); exact HL115_0.out) hb); have n5_ := Aside0.mk (blk_below (g := gb111) (o := .cells #[.string a0_0, .slice A0_1 l0_1.length c0_1, .slice A0_2 l0_2.length c0_2, .slice A0_3 l0_3.length c0_3, .int .i64 a0_4] 40 (0, 0)) (by (with_reducible repeat (first | refine blk_drewN ?_ _ | refine blk_drew ?_ | refine blk_alloc ?_ _)); exact BK111.out) hb); have n6_ := Aside0.mk (Kd.C_below (by repeat (first | (with_reducible exact HR115_0.out) | (with_reducible refine Kd.C_alloc ?_ _) | (with_reducible refine Kd.C_drewN ?_ _) | (with_reducible refine Kd.C_drew ?_) | exact HR115_0.out)) hb); have n7_ := Aside0.mk (below_step (by repeat (first | (with_reducible first | exact HB.out | apply below_alloc | apply pw_below_drewN | apply below_drew1 | refine below_set ?_ GE111.out) | exact HB.out)) hb); clear HO_22; clear HO_112001; clear HO_112002; clear HO_112003; clear HL115_0; clear BK111; clear HR115_0; clear HB; have HO_22 := n0_; have HO_112001 := n1_; have HO_112002 := n2_; have HO_112003 := n3_; have HL115_0 := n4_; have BK111 := n5_; have HR115_0 := n6_; have HB := n7_; clear n0_ n1_ n2_ n3_ n4_ n5_ n6_ n7_; (try clear hb); (try clear hb2); (try clear hk); (try clear hi)))
          go_roundg k2
          case measure => have := HJ2.out; have := HK2.out; omega
          case rel => exact ⟨(wrap64 (x24_2 + 1)), (by first | rfl | (simp; done) | (simp [*]; done) | (simp [i64_w]; done)), H', ⟨by have := HJ2.out; have := HK2.out; omega⟩, ⟨by (with_reducible repeat (first | apply Kd.N_alloc | apply Kd.N_drewN | apply Kd.N_drew)); exact HO_22.out⟩, ⟨by (with_reducible repeat (first | apply Kd.V_alloc | apply Kd.V_drewN | apply Kd.V_drew)); exact HO_112001.out⟩, ⟨by (with_reducible repeat (first | apply Kd.V_alloc | apply Kd.V_drewN | apply Kd.V_drew)); exact HO_112002.out⟩, ⟨by (with_reducible repeat (first | apply Kd.V_alloc | apply Kd.V_drewN | apply Kd.V_drew)); exact HO_112003.out⟩, ⟨by (with_reducible repeat (first | refine blk_drewN ?_ _ | refine blk_drew ?_ | refine blk_alloc ?_ _)); exact BK111.out⟩, ⟨by repeat (first | (with_reducible first | exact HB.out | apply below_alloc | apply pw_below_drewN | apply below_drew1 | refine below_set ?_ GE111.out) | exact HB.out)⟩⟩
         ·
          rw [if_neg c17] at H
          have c17b0 : (t116 == 0) = false := beq_eq_false_iff_ne.mpr c17
          have c17b1 : (t116 != 0) = true := bne_iff_ne.mpr c17
          obtain rfl := Option.some.inj H
          have p115 : 0 ≤ (x24_2 : Int) := of_decide_eq_true (by first | (with_reducible assumption) | assumption)
          have q115 : x24_2 < (y112.length : Int) := of_decide_eq_true (by first | (with_reducible assumption) | assumption)
          obtain ⟨ad115, A115_0, c115_0, e115, hx115_0, hl115_0, hi115_0⟩ := at_L5 (Kd.N_reads' HO_22.out).2.2 x24_2 p115 q115
          cases e115
          obtain ⟨ce115, hce115, hMe115, hcc115⟩ := Kd.N_get HO_22.out [] x24_2 p115 (by first | exact q115 | exact of_decide_eq_true (by first | (with_reducible assumption) | assumption) | (have e_ := (Kd.N_reads' HO_22.out).1; omega))
          obtain ⟨ua115_0, uc115_0, rfl, ul115_0, ge115_0⟩ := Kd.FK_slice_open hMe115
          have hv115_0 := hcc115 0 _ rfl
          rw [Nat.add_zero, show ((Kd.slice 58 k58)).sz = 1 from rfl, Nat.mul_one] at hv115_0
          replace hv115_0 := Option.some.inj (hv115_0.symm.trans hx115_0)
          injection hv115_0 with hva_ hvn_ hvc_
          rw [hva_] at ge115_0
          rw [hvc_] at ul115_0
          have HL115_0 := Aside0.mk (show Kd.V k58 58 _ w.heap.size _ _ (rd_L5 y112 x24_2) from Kd.V_mk ul115_0 ge115_0)
          clear hva_ hvn_ hvc_ ge115_0 ul115_0
          clear hcc115 hce115
          have HR115_0 := Aside0.mk hi115_0
          have HC115_0 := Aside0.mk hl115_0
          clear hi115_0 hl115_0
          replace p115 := eq_true p115
          replace q115 := eq_true q115
          go_wp2_with (first | ((with_reducible refine gate_callee (f := 82) rfl ?_); refine goesL_ (some 30) rfl rfl Try.func82 (by kernel_rfl) rfl #[.slice A115_0 (rd_L5 y112 x24_2).length c115_0, .int .i64 a1] rfl (by (try simp only [List.map_toArray, List.map_cons, List.map_nil]); first | done | rfl | (simp only [List.length_drop, List.length_take]; rfl)) ?_; (with_reducible refine (net_checkArcs.calls k2 _ _ (rd_L5 y112 x24_2) a1 t116 _ ?side1 ?side2 A16.out).mono ?_); (case side1 => repeat (first | exact (by repeat (first | (with_reducible exact HR115_0.out) | (with_reducible refine Kd.C_alloc ?_ _) | (with_reducible refine Kd.C_drewN ?_ _) | (with_reducible refine Kd.C_drew ?_) | exact HR115_0.out)) | (with_reducible refine Kd.C_alloc ?_ _) | (with_reducible refine Kd.C_drewN ?_ _) | (with_reducible refine Kd.C_drew ?_))); (case side2 => exact HC115_0.out); rintro e w19 ⟨rfl, hb⟩; refine ⟨_, rfl, ?_⟩; have n0_ := Aside0.mk (Kd.N_below (by (with_reducible repeat (first | apply Kd.N_alloc | apply Kd.N_drewN | apply Kd.N_drew)); exact HO_22.out) hb); have n1_ := Aside0.mk (Kd.V_below (by (with_reducible repeat (first | apply Kd.V_alloc | apply Kd.V_drewN | apply Kd.V_drew)); exact HO_112001.out) hb); have n2_ := Aside0.mk (Kd.V_below (by (with_reducible repeat (first | apply Kd.V_alloc | apply Kd.V_drewN | apply Kd.V_drew)); exact HO_112002.out) hb); have n3_ := Aside0.mk (Kd.V_below (by (with_reducible repeat (first | apply Kd.V_alloc | apply Kd.V_drewN | apply Kd.V_drew)); exact HO_112003.out) hb); have n4_ := Aside0.mk (Kd.V_below (by (with_reducible repeat (first | apply Kd.V_alloc | apply Kd.V_drewN | apply Kd.V_drew)); exact HL115_0.out) hb); have n5_ := Aside0.mk (blk_below (g := gb111) (o := .cells #[.string a0_0, .slice A0_1 l0_1.length c0_1, .slice A0_2 l0_2.length c0_2, .slice A0_3 l0_3.length c0_3, .int .i64 a0_4] 40 (0, 0)) (by (with_reducible repeat (first | refine blk_drewN ?_ _ | refine blk_drew ?_ | refine blk_alloc ?_ _)); exact BK111.out) hb); have n6_ := Aside0.mk (Kd.C_below (by repeat (first | (with_reducible exact HR115_0.out) | (with_reducible refine Kd.C_alloc ?_ _) | (with_reducible refine Kd.C_drewN ?_ _) | (with_reducible refine Kd.C_drew ?_) | exact HR115_0.out)) hb); have n7_ := Aside0.mk (below_step (by repeat (first | (with_reducible first | exact HB.out | apply below_alloc | apply pw_below_drewN | apply below_drew1 | refine below_set ?_ GE111.out) | exact HB.out)) hb); clear HO_22; clear HO_112001; clear HO_112002; clear HO_112003; clear HL115_0; clear BK111; clear HR115_0; clear HB; have HO_22 := n0_; have HO_112001 := n1_; have HO_112002 := n2_; have HO_112003 := n3_; have HL115_0 := n4_; have BK111 := n5_; have HR115_0 := n6_; have HB := n7_; clear n0_ n1_ n2_ n3_ n4_ n5_ n6_ n7_; (try clear hb); (try clear hb2); (try clear hk); (try clear hi)))
          go_ret
          exact ⟨by first | rfl | (simp [errW_none, errW_some] <;> rfl) | (simp [*, errW_none, errW_some] <;> rfl), by repeat (first | (with_reducible first | exact HB.out | apply below_alloc | apply pw_below_drewN | apply below_drew1 | refine below_set ?_ GE111.out) | exact HB.out)⟩
        ·
         rw [if_neg c15] at H
         exact absurd H (by simp)
       ·
        rw [if_neg c14] at H
        exact absurd H (by simp)
      ·
       rw [if_neg c13] at H
       have c13b0 : decide (x24_2 < (y112.length : Int)) = false := decide_eq_false c13
       clear c13
       obtain rfl := Option.some.inj H
       go_wp2
       go_ret
       exact ⟨by first | rfl | (simp [errW_none, errW_some] <;> rfl) | (simp [*, errW_none, errW_some] <;> rfl), by repeat (first | (with_reducible first | exact HB.out | apply below_alloc | apply pw_below_drewN | apply below_drew1 | refine below_set ?_ GE111.out) | exact HB.out)⟩




section
-- STUBBED 54
/-! ### net_Check: function 54: by hand -/
open Go.Proofs.Ytaphehdbjbogaaa.Names Go.Proofs.Ytaphehdbjbogaaa.Iter
attribute [local go_sem] Instr.field asAgg

/-! ### the closure: a name is added to those seen -/
def addB (names : List ByteArray) (s : ByteArray) : Int × List ByteArray := if nameB s then (if names.any fun y => y.toList == s.toList then (6, names) else (0, names ++ [s])) else (5, names)
theorem any_take_succ {names : List ByteArray} {f : ByteArray → Bool} {j : Nat} (hj : j < names.length) : (names.take (j + 1)).any f = ((names.take j).any f || f names[j]) := by
  rw [List.take_succ_eq_append_getElem hj, List.any_append]; simp

set_option maxHeartbeats 4000000 in
set_option maxRecDepth 100000 in
theorem add_calls (B : Nat) (v : Value) (names : List ByteArray) (s : ByteArray) (w0 w : World) (hB : Below w0.heap.size w0 w) (hb : w0.heap.size ≤ B) (bx : Boxed w B 83 v) (hR : Kd.R Kd.string 9 w w0.heap.size (fun k => B < k) v names) (hl : names.length ≤ 100) :
    Calls Try.prog 71 #[.string s, .pointer (some ⟨B, 0, none⟩)] w fun e w' => e = .returned (.int .i64 (addB names s).1) ∧ ∃ v', Boxed w' B 83 v' ∧ Kd.R Kd.string 9 w' w0.heap.size (fun k => B < k) v' (addB names s).2 ∧ Below w0.heap.size w0 w' ∧ Below B w w' ∧ ∀ g, g < w.heap.size → g ≠ B → some g ≠ v.ownBlock → w'.heap[g]? = w.heap[g]? := by
  have HB := Aside0.mk hB
  have hbl := bx.lt
  have HBX := Aside0.mk bx
  have HR := Aside0.mk hR
  clear hB bx hR
  cases hn : nameB s with
  | false =>
    have HE := Aside0.mk (show addB names s = (5, names) by unfold addB; rw [hn]; rfl)
    have HN := Aside0.mk (show net_Name.f s = some false by unfold net_Name.f; rw [hn])
    clear hn
    go_enter Try.func71, Try.ntmps71
    go_wp2_with (go_at_call 70; (with_reducible refine (net_Name.calls s false _ HN.out).mono ?_); rintro e w1 ⟨rfl, hb1⟩; have HB1 := Aside0.mk hb1; clear hb1)
    go_ret
    exact ⟨by rw [HE.out]; rfl, v, boxed_later HBX.out HB1.out, by rw [HE.out]; exact Kd.R_below HR.out HB1.out, below_step HB.out HB1.out, HB1.out.mono (by omega), fun g hg _ _ => HB1.out.block g hg⟩
  | true =>
    have HN := Aside0.mk (show net_Name.f s = some true by unfold net_Name.f; rw [hn])
    have HNB := Aside0.mk hn
    clear hn
    obtain ⟨A1, c1, rfl, hle1, _⟩ := Kd.R_reads HR.out
    go_enter Try.func71, Try.ntmps71
    go_wp2_with (go_at_call 70; (with_reducible refine (net_Name.calls s true _ HN.out).mono ?_); rintro e w1 ⟨rfl, hb1⟩; have HB1 := Aside0.mk hb1; have HBX1 := Aside0.mk (boxed_later HBX.out hb1); have hbc := HBX1.out.cell; have hbf := HBX1.out.frozen; clear hb1)
    have hs1 := HB1.out.size
    have HR1 := Aside0.mk (Kd.R_below HR.out HB1.out)
    have HC := Aside0.mk (Kd.R_reads' HR1.out).2.2
    have HB0 := Aside0.mk (below_step HB.out HB1.out)
    have HBB := Aside0.mk (HB1.out.mono (show B ≤ w.heap.size by omega))
    have HK0 := Aside0.mk (show ∀ g, g < w.heap.size → w1.heap[g]? = w.heap[g]? from fun g hg => HB1.out.block g hg)
    clear HR HB HBX HB1
    go_loop [11] (fun v11 => ∃ j : Nat, v11 = .int .i64 j ∧ j ≤ names.length ∧ Aside0 (((names.take j).any fun y => y.toList == s.toList) = false)) (fun v11 => names.length - (intOf v11).toNat)
    case atStart => exact ⟨0, rfl, Nat.zero_le _, ⟨rfl⟩⟩
    case round =>
      obtain ⟨j, rfl, hj, HQ⟩ := hrel
      by_cases hjl : j < names.length
      · obtain ⟨ad2, e2, hx2⟩ := Kd.at_string HC.out (j : Int) (by omega) (by omega)
        cases e2
        rw [Int.toNat_natCast] at hx2
        have hrd : rdOf ByteArray.empty names (j : Int) = names[j] := by simp [rdOf, hjl]
        rw [hrd] at hx2
        obtain ⟨x, hxo⟩ : ∃ x, x = names[j] := ⟨_, rfl⟩
        rw [← hxo] at hx2
        have HX := Aside0.mk hxo
        clear hxo hrd
        by_cases hxs : x.toList = s.toList
        · have hbeq : (x.toList == s.toList) = true := beq_iff_eq.mpr hxs
          have HE := Aside0.mk (show addB names s = (6, names) by
            unfold addB
            rw [HNB.out, if_pos rfl, if_pos]
            rw [List.any_eq_true]
            exact ⟨x, HX.out ▸ List.getElem_mem hjl, hbeq⟩)
          clear hxs
          go_wp2
          go_ret
          exact ⟨by rw [HE.out]; rfl, _, HBX1.out, by rw [HE.out]; exact HR1.out, HB0.out, HBB.out, fun g hg _ _ => HK0.out g hg⟩
        · have hbeq : (x.toList == s.toList) = false := beq_eq_false_iff_ne.mpr hxs
          have HQ2 := Aside0.mk (show ((names.take (j + 1)).any fun y => y.toList == s.toList) = false by rw [any_take_succ hjl, HQ.out, ← HX.out, hbeq]; rfl)
          clear hxs
          go_wp2
          go_round
          case rel => exact ⟨j + 1, by go_num, by omega, HQ2⟩
          case measure => simp [intOf]; omega
      · obtain rfl : j = names.length := by omega
        have HE := Aside0.mk (show addB names s = (0, names ++ [s]) by
          have h := HQ.out
          rw [List.take_length] at h
          unfold addB
          rw [HNB.out, if_pos rfl, if_neg (by rw [h]; simp)])
        go_wp2_with ((with_reducible refine gate_builtin (b := .append) (xs := #[.tmp 19, .tmp 21]) rfl ?_); at_builtin; refine Kd.R_append Kd.string (w0 := w0) w0.heap.size rfl (.tmp 19) (.tmp 21) 83 9 (.string ⟨#[]⟩) 16 rfl Try.underlying83 info9 rfl (by decide) (by omega) (.slice A1 names.length c1) names s [.string s] (fun k => B < k) (fun _ => False) rfl rfl ?aP (fun _ hk => hk.elim) ?aF ?aO ?aB ?aS ?aL ?_; (case aP => exact rfl); (case aB => exact HB0.out); (case aF => exact (fun k hk => show B < k by omega)); (case aO => exact HR1.out); (case aS => omega); (case aL => omega); skip)
        intro v' w4 ho hb4 hg hat
        obtain ⟨A4, c4, rfl⟩ := Kd.R_slice ho
        have HO4 := Aside0.mk ho
        have HB4 := Aside0.mk hb4
        have HG4 := Aside0.mk hg
        clear ho hb4 hg hat
        have hk4 : Below (B + 1) w1 w4 := (Below.refl (B + 1) w1).grown HG4.out (by omega) (fun k ek => HR1.out.1 k ek)
        have HK4 := Aside0.mk hk4
        have hv4 : Boxed w4 B 83 (.slice A1 names.length c1) := (hk4.block _ (by omega)).trans HBX1.out
        have HV4 := Aside0.mk hv4
        have hv4c := hv4.cell
        have hv4f := hv4.frozen
        clear hk4 hv4
        go_wp2
        go_ret
        refine ⟨by rw [HE.out]; rfl, _, HV4.out.set _, ?_, HB4.out.setCell (p := ⟨B, 0, none⟩) (by simpa using hb) _, (HBB.out.trans (HK4.out.mono (by omega))).setCell (p := ⟨B, 0, none⟩) (by simp) _, fun g hg hgB hgv => (Below.heap_setCell w4 ⟨B, 0, none⟩ _ g (by simpa using hgB)).trans ((HG4.out.block g (by omega) hgv).trans (HK0.out g hg))⟩
        rw [HE.out]
        have z := Kd.R_far (p := ⟨B, 0, none⟩) HO4.out (fun k hk => by have hk2 : B < k := hk; simp; omega) (.slice A4 (names.length + 1) c4)
        rw [List.length_append] at z
        exact z

/-! ### Check -/
def chkP (k : Nat) : List S56 → Nat → List ByteArray → Option ((Int × Int) ⊕ List ByteArray)
  | [], _, names => some (.inr names)
  | p :: ps, i, names => if (addB names p.f0).1 = 0 then (net_checkPlace.f k p.f0 p.f1 p.f2).bind fun e => if e = 0 then chkP k ps (i + 1) (addB names p.f0).2 else some (.inl (e, (i : Int))) else some (.inl ((addB names p.f0).1, (i : Int)))
def chkT (k : Nat) (np : Nat) : List S40 → Nat → List ByteArray → Option (Int × Int)
  | [], _, names => some (0, 0)
  | t :: ts, i, names => if (addB names t.f0).1 = 0 then (net_checkTrans.f k t.f0 t.f1 t.f2 t.f3 t.f4 (np : Int)).bind fun e => if e = 0 then chkT k np ts (i + 1) (addB names t.f0).2 else some (e, ((np + i : Nat) : Int)) else some ((addB names t.f0).1, ((np + i : Nat) : Int))
def chkF (k np : Nat) (l2 : List S40) : (Int × Int) ⊕ List ByteArray → Option (Int × Int)
  | .inl e => some e
  | .inr names => chkT k np l2 0 names
def net_Check.f (k : Nat) (a0_0 : ByteArray) (l0_1 : List S56) (l0_2 : List S40) : Option (Int × Int) :=
  if nameB a0_0 then (if l0_1.length < 1 ∨ 24 < l0_1.length ∨ 24 < l0_2.length then some (2, 0) else (chkP k l0_1 0 []).bind (chkF k l0_1.length l0_2)) else some (5, 0)
theorem chkP_mono (k : Nat) : ∀ (l : List S56) (i : Nat) (names : List ByteArray), LeO (chkP k l i names) (chkP (k + 1) l i names)
  | [], i, names => LeO.refl _
  | p :: ps, i, names => by
    rw [chkP, chkP]
    split
    · refine LeO.bind (net_checkPlace.mono _ _ _ _) fun e => ?_
      split
      · exact chkP_mono k ps _ _
      · exact LeO.refl _
    · exact LeO.refl _
theorem chkT_mono (k np : Nat) : ∀ (l : List S40) (i : Nat) (names : List ByteArray), LeO (chkT k np l i names) (chkT (k + 1) np l i names)
  | [], i, names => LeO.refl _
  | p :: ps, i, names => by
    rw [chkT, chkT]
    split
    · refine LeO.bind (net_checkTrans.mono _ _ _ _ _ _ _) fun e => ?_
      split
      · exact chkT_mono k np ps _ _
      · exact LeO.refl _
    · exact LeO.refl _
theorem net_Check.mono (a0 : ByteArray) (a1 : List S56) (a2 : List S40) (k : Nat) : LeO (net_Check.f k a0 a1 a2) (net_Check.f (k + 1) a0 a1 a2) := by
  unfold net_Check.f
  split
  · split
    · exact LeO.refl _
    · refine LeO.bind (chkP_mono k _ _ _) fun r => ?_
      cases r with
      | inl e => exact LeO.refl _
      | inr names => exact chkT_mono k _ _ _ _
  · exact LeO.refl _
theorem addB_len (names : List ByteArray) (s : ByteArray) : (addB names s).2.length ≤ names.length + 1 := by
  unfold addB
  split
  · split
    · exact Nat.le_succ _
    · simp
  · exact Nat.le_succ _
theorem chkP_cons {k : Nat} {l : List S56} {i : Nat} (hi : i < l.length) {names : List ByteArray} : chkP k (l.drop i) i names = if (addB names (rd_T56 l i).f0).1 = 0 then (net_checkPlace.f k (rd_T56 l i).f0 (rd_T56 l i).f1 (rd_T56 l i).f2).bind fun e => if e = 0 then chkP k (l.drop (i + 1)) (i + 1) (addB names (rd_T56 l i).f0).2 else some (.inl (e, (i : Int))) else some (.inl ((addB names (rd_T56 l i).f0).1, (i : Int))) := by
  have e : rd_T56 l i = l[i] := by simp [rd_T56, hi]
  rw [List.drop_eq_getElem_cons hi, chkP, e]
theorem chkT_cons {k np : Nat} {l : List S40} {i : Nat} (hi : i < l.length) {names : List ByteArray} : chkT k np (l.drop i) i names = if (addB names (rd_T40 l i).f0).1 = 0 then (net_checkTrans.f k (rd_T40 l i).f0 (rd_T40 l i).f1 (rd_T40 l i).f2 (rd_T40 l i).f3 (rd_T40 l i).f4 (np : Int)).bind fun e => if e = 0 then chkT k np (l.drop (i + 1)) (i + 1) (addB names (rd_T40 l i).f0).2 else some (e, ((np + i : Nat) : Int)) else some ((addB names (rd_T40 l i).f0).1, ((np + i : Nat) : Int)) := by
  have e : rd_T40 l i = l[i] := by simp [rd_T40, hi]
  rw [List.drop_eq_getElem_cons hi, chkT, e]

/-- Two blocks made at the start, behind what leaves them. -/
theorem after_two {w w1 : World} {cs fs : List Value} {t t' : TypeId} (hb : Below (w.heap.size + 1 + 1) ((w.alloc (.cells cs.toArray t)).alloc (.cells fs.toArray t')) w1) : Blk w1 w.heap.size t cs ∧ Blk w1 (w.heap.size + 1) t' fs ∧ Below w.heap.size w w1 ∧ w.heap.size + 1 + 1 ≤ w1.heap.size := by
  have x1 : Blk (w.alloc (.cells cs.toArray t)) w.heap.size t cs := World.alloc_heap_new w (.cells cs.toArray t)
  have x2 : Blk ((w.alloc (.cells cs.toArray t)).alloc (.cells fs.toArray t')) (w.heap.size + 1) t' fs := by
    have := World.alloc_heap_new (w.alloc (.cells cs.toArray t)) (.cells fs.toArray t')
    rwa [World.size_alloc] at this
  have hsz : ((w.alloc (.cells cs.toArray t)).alloc (.cells fs.toArray t')).heap.size = w.heap.size + 1 + 1 := by simp
  refine ⟨(hb.block _ (by omega)).trans (blk_alloc x1 _), (hb.block _ (by omega)).trans x2, (((Below.refl _ w).alloc (Nat.le_refl _) _).alloc (by simp) _).trans (hb.mono (by omega)), by have := hb.size; omega⟩
/-- The facts that a walk asks of a Fault's cells. -/
theorem fault_cells {W : World} {g : Nat} {t : TypeId} {x y : Value} (h : Blk W g t [x, y]) : W.cell? ⟨g, 0, none⟩ = some x ∧ W.cell? ⟨g, 1, none⟩ = some y ∧ W.frozen? ⟨g, 0, none⟩ = false ∧ W.frozen? ⟨g, 1, none⟩ = false := by
  refine ⟨?_, ?_, ?_, ?_⟩
  · simp [World.cell?, show W.heap[g]? = _ from h]
  · simp [World.cell?, show W.heap[g]? = _ from h]
  · simp [World.frozen?, show W.heap[g]? = _ from h]
  · simp [World.frozen?, show W.heap[g]? = _ from h]
theorem fault_put {W : World} {g : Nat} {t : TypeId} {x y : Value} (h : Blk W g t [x, y]) (e a : Value) : ((W.setCell ⟨g, 0, none⟩ e).setCell ⟨g, 1, none⟩ a).heap[g]? = some (.cells #[e, a] t (0, 0)) := blk_set 1 a (blk_set 0 e h)
theorem net_cells {W : World} {g : Nat} {t : TypeId} {x y z : Value} (h : Blk W g t [x, y, z]) : W.cell? ⟨g, 0, none⟩ = some x ∧ W.cell? ⟨g, 1, none⟩ = some y ∧ W.cell? ⟨g, 2, none⟩ = some z := by
  refine ⟨?_, ?_, ?_⟩ <;> simp [World.cell?, show W.heap[g]? = _ from h]

theorem trans_cells {W : World} {g : Nat} {t : TypeId} {x y z u v : Value} (h : Blk W g t [x, y, z, u, v]) : W.cell? ⟨g, 0, none⟩ = some x ∧ W.cell? ⟨g, 1, none⟩ = some y ∧ W.cell? ⟨g, 2, none⟩ = some z ∧ W.cell? ⟨g, 3, none⟩ = some u ∧ W.cell? ⟨g, 4, none⟩ = some v := by
  refine ⟨?_, ?_, ?_, ?_, ?_⟩ <;> simp [World.cell?, show W.heap[g]? = _ from h]

set_option maxHeartbeats 16000000 in
set_option maxRecDepth 100000 in
theorem net_Check.calls (k : Nat) (a0_0 : ByteArray) (A0_1 : Option Addr) (c0_1 : Nat) (l0_1 : List S56) (A0_2 : Option Addr) (c0_2 : Nat) (l0_2 : List S40) (r1 r2 : Int) (w : World) (hr0_1 : Kd.C k56 w A0_1 l0_1.length l0_1) (hc0_1 : l0_1.length ≤ c0_1) (hr0_2 : Kd.C k40 w A0_2 l0_2.length l0_2) (hc0_2 : l0_2.length ≤ c0_2) (h : net_Check.f k a0_0 l0_1 l0_2 = some (r1, r2)) :
    Calls Try.prog 54 #[.agg #[.string a0_0, .slice A0_1 l0_1.length c0_1, .slice A0_2 l0_2.length c0_2]] w fun e w' => e = .returned (.agg #[.int .i64 r1, .int .i64 r2]) ∧ Below w.heap.size w w' := by
  have HR1 := Aside0.mk hr0_1
  have HC1 := Aside0.mk hc0_1
  have HR2 := Aside0.mk hr0_2
  have HC2 := Aside0.mk hc0_2
  clear hr0_1 hc0_1 hr0_2 hc0_2
  cases hn : nameB a0_0 with
  | false =>
    have HN := Aside0.mk (show net_Name.f a0_0 = some false by unfold net_Name.f; rw [hn])
    have h : some ((5 : Int), (0 : Int)) = some (r1, r2) := by rw [← h]; unfold net_Check.f; rw [hn]; rfl
    simp only [Option.some.injEq, Prod.mk.injEq] at h
    obtain ⟨rfl, rfl⟩ := h
    clear hn
    go_enter Try.func54, Try.ntmps54
    go_wp2_with (go_at_call 70; (with_reducible refine (net_Name.calls a0_0 false _ HN.out).mono ?_); rintro e w1 ⟨rfl, hb1⟩; obtain ⟨hS, hF, hB1, hz1⟩ := after_two (cs := [.string a0_0, .slice A0_1 l0_1.length c0_1, .slice A0_2 l0_2.length c0_2]) (fs := [.int .i64 0, .int .i64 0]) (by simpa using hb1); have HF := Aside0.mk hF; obtain ⟨f0, f1, f2, f3⟩ := fault_cells hF; have HB1 := Aside0.mk hB1; clear hb1 hS hF hB1)
    refine bodyPost_ret (results_cell_row rfl _ _ (w.heap.size + 1) 66 #[.int .i64 5, .int .i64 0] (0, 0) _ rfl (fault_put HF.out _ _) Try.underlying66 rfl (by kernel_rfl)) rfl ?_
    exact ⟨rfl, (HB1.out.setCell (p := ⟨w.heap.size + 1, 0, none⟩) (by simp) _).setCell (p := ⟨w.heap.size + 1, 1, none⟩) (by simp) _⟩
  | true =>
    have HN := Aside0.mk (show net_Name.f a0_0 = some true by unfold net_Name.f; rw [hn])
    unfold net_Check.f at h
    rw [hn, if_pos rfl] at h
    clear hn
    by_cases hsz : l0_1.length < 1 ∨ 24 < l0_1.length ∨ 24 < l0_2.length
    · rw [if_pos hsz] at h
      simp only [Option.some.injEq, Prod.mk.injEq] at h
      obtain ⟨rfl, rfl⟩ := h
      have hc : ((l0_1.length : Int) < 1) ∨ (¬ (l0_1.length : Int) < 1 ∧ (24 : Int) < (l0_1.length : Int)) ∨ (¬ (l0_1.length : Int) < 1 ∧ ¬ (24 : Int) < (l0_1.length : Int) ∧ (24 : Int) < (l0_2.length : Int)) := by omega
      clear hsz
      rcases hc with h1 | ⟨h1, h2⟩ | ⟨h1, h2, h3⟩
      all_goals
        go_enter Try.func54, Try.ntmps54
        go_wp2_with (go_at_call 70; (with_reducible refine (net_Name.calls a0_0 true _ HN.out).mono ?_); rintro e w1 ⟨rfl, hb1⟩; obtain ⟨hS, hF, hB1, hz1⟩ := after_two (cs := [.string a0_0, .slice A0_1 l0_1.length c0_1, .slice A0_2 l0_2.length c0_2]) (fs := [.int .i64 0, .int .i64 0]) (by simpa using hb1); have HF := Aside0.mk hF; obtain ⟨f0, f1, f2, f3⟩ := fault_cells hF; obtain ⟨s0, s1, s2⟩ := net_cells hS; have HB1 := Aside0.mk hB1; clear hb1 hS hF hB1)
        refine bodyPost_ret (results_cell_row rfl _ _ (w.heap.size + 1) 66 #[.int .i64 2, .int .i64 0] (0, 0) _ rfl (fault_put HF.out _ _) Try.underlying66 rfl (by kernel_rfl)) rfl ?_
        exact ⟨rfl, (HB1.out.setCell (p := ⟨w.heap.size + 1, 0, none⟩) (by simp) _).setCell (p := ⟨w.heap.size + 1, 1, none⟩) (by simp) _⟩
    · rw [if_neg hsz] at h
      have hn1 : 1 ≤ l0_1.length := by omega
      have hn2 : l0_1.length ≤ 24 := by omega
      have hn3 : l0_2.length ≤ 24 := by omega
      have h1 : decide ((l0_1.length : Int) < 1) = false := decide_eq_false (by omega)
      have h2 : decide ((24 : Int) < (l0_1.length : Int)) = false := decide_eq_false (by omega)
      have h3 : decide ((24 : Int) < (l0_2.length : Int)) = false := decide_eq_false (by omega)
      have HH := Aside0.mk h
      clear h hsz
      go_enter Try.func54, Try.ntmps54
      go_wp2_with (go_at_call 70; (with_reducible refine (net_Name.calls a0_0 true _ HN.out).mono ?_); rintro e w1 ⟨rfl, hb1⟩; obtain ⟨hS, hF, hB1, hz1⟩ := after_two (cs := [.string a0_0, .slice A0_1 l0_1.length c0_1, .slice A0_2 l0_2.length c0_2]) (fs := [.int .i64 0, .int .i64 0]) (by simpa using hb1); have HF := Aside0.mk hF; obtain ⟨f0, f1, f2, f3⟩ := fault_cells hF; obtain ⟨s0, s1, s2⟩ := net_cells hS; have HS := Aside0.mk hS; have HB1 := Aside0.mk hB1; clear hb1 hS hF hB1; have s1' : ∀ o, (w1.alloc o).cell? ⟨w.heap.size, 1, none⟩ = some (.slice A0_1 l0_1.length c0_1) := (fun o => (net_cells (blk_alloc HS.out o)).2.1))
      have bB := Boxed.new w1 83 (.slice none 0 0)
      have HS0 := Aside0.mk (blk_alloc HS.out (.cells #[.slice none 0 0] 83))
      have HF0 := Aside0.mk (blk_alloc HF.out (.cells #[.slice none 0 0] 83))
      have HB0 := Aside0.mk (HB1.out.alloc (by omega) (.cells #[.slice none 0 0] 83))
      clear HS HF HB1 f0 f1 f2 f3 s0 s1 s2 s1'
      obtain ⟨B, hBd⟩ : ∃ B, B = w1.heap.size := ⟨_, rfl⟩
      have hSB : w.heap.size + 1 + 1 ≤ B := by omega
      rw [← hBd] at bB ⊢
      obtain ⟨w2, hw2⟩ : ∃ w2, w1.alloc (.cells #[.slice none 0 0] 83) = w2 := ⟨_, rfl⟩
      rw [hw2] at bB HS0 HF0 HB0 ⊢
      clear hw2 hBd
      go_loopw [37] (fun v37 wr => ∃ (i : Nat) (names : List ByteArray) (v : Value), v37 = .int .i64 i ∧ i ≤ l0_1.length ∧ names.length ≤ i ∧ Aside0 ((chkP k (l0_1.drop i) i names).bind (chkF k l0_1.length l0_2) = some (r1, r2)) ∧ Aside0 (Blk wr w.heap.size 25 [.string a0_0, .slice A0_1 l0_1.length c0_1, .slice A0_2 l0_2.length c0_2]) ∧ Aside0 (Blk wr (w.heap.size + 1) 66 [.int .i64 0, .int .i64 0]) ∧ Aside0 (Boxed wr B 83 v) ∧ Aside0 (Kd.R Kd.string 9 wr w.heap.size (fun k => B < k) v names) ∧ Aside0 (Below w.heap.size w wr)) (fun v37 _ => l0_1.length - (intOf v37).toNat)
      case atStart => exact ⟨0, [], _, rfl, Nat.zero_le _, Nat.zero_le _, HH, HS0, HF0, ⟨bB⟩, ⟨Kd.R_nil _ _ _ _ _⟩, HB0⟩
      case round =>
        clear HH HS0 HF0 HB0 bB
        obtain ⟨i, names, v, rfl, hi, hnl, HA, HS, HF, HX, HR, HB⟩ := hrel
        obtain ⟨s0, s1, s2⟩ := net_cells HS.out
        have hws := HB.out.size
        have hBl := HX.out.lt
        by_cases hlt : i < l0_1.length
        · have H := HA.out
          rw [chkP_cons hlt] at H
          clear HA
          obtain ⟨ad, e1, hx0, hx1, hx2⟩ := at_T56 HR1.out (i : Int) (by omega) (by omega)
          cases e1
          rw [Int.toNat_natCast] at hx0 hx1 hx2
          replace hx0 := (HB.out.cell (World.block_lt_of_cell? w _ hx0)).trans hx0
          replace hx1 := (HB.out.cell (World.block_lt_of_cell? w _ hx1)).trans hx1
          replace hx2 := (HB.out.cell (World.block_lt_of_cell? w _ hx2)).trans hx2
          generalize rd_T56 l0_1 (i : Int) = p at H hx0 hx1 hx2
          have HH := Aside0.mk H
          clear H
          go_wp2_with ((with_reducible refine gate_dst (N := 6) rfl ?_); refine box_event ?hg (N := 6) ?hd (cs := #[.string ⟨#[]⟩, .int .i64 0, .int .i64 0]) (t := 56) ?hr ?_; (case hd => rfl); (case hg => rfl); (case hr => first | (go_simp; done) | (go_simp; rfl)); intro gb hgb w4 hbox hb4; have HG4 := Aside0.mk (show Blk w4 gb 56 [.string ⟨#[]⟩, .int .i64 0, .int .i64 0] from hbox); have hz0 := blk_cell hbox 0; have hz1 := blk_cell hbox 1; have hz2 := blk_cell hbox 2; have hq0 := blk_frozen hbox 0; have hq1 := blk_frozen hbox 1; have hq2 := blk_frozen hbox 2; have HB4 := Aside0.mk hb4; have HGB := Aside0.mk hgb; clear hbox hb4 hgb)
          obtain ⟨W5, hW5⟩ : ∃ W5, ((w4.setCell ⟨gb, 0, none⟩ (.string p.f0)).setCell ⟨gb, 1, none⟩ (.int .i64 p.f1)).setCell ⟨gb, 2, none⟩ (.int .i64 p.f2) = W5 := ⟨_, rfl⟩
          have hG5 : Blk W5 gb 56 [.string p.f0, .int .i64 p.f1, .int .i64 p.f2] := hW5 ▸ blk_set 2 _ (blk_set 1 _ (blk_set 0 _ HG4.out))
          have hgb := HGB.out
          have hb5 : Below gb wr W5 := by
            rw [← hW5]
            exact (((show Below gb wr w4 by rw [hgb]; exact HB4.out).setCell (p := ⟨gb, 0, none⟩) (by simp) _).setCell (p := ⟨gb, 1, none⟩) (by simp) _).setCell (p := ⟨gb, 2, none⟩) (by simp) _
          rw [hW5]
          have hX5 : Boxed W5 B 83 v := (hb5.block B (by omega)).trans HX.out
          have hR5 : Kd.R Kd.string 9 W5 w.heap.size (fun k => B < k) v names := Kd.R_below HR.out (by rw [← hgb]; exact hb5)
          have hB5 : Below w.heap.size w W5 := HB.out.trans (hb5.mono (by omega))
          refine (add_calls B v names p.f0 w W5 hB5 (by omega) hX5 hR5 (by omega)).mono ?_
          rintro e W6 ⟨rfl, v', hX6, hR6, hB6, hb6, hk6⟩
          have hnl2 := addB_len names p.f0
          have hG6 : Blk W6 gb 56 [.string p.f0, .int .i64 p.f1, .int .i64 p.f2] := (hk6 gb (Array.getElem?_eq_some_iff.1 hG5).1 (by omega) (fun e => by have := ((Kd.R_bound HR.out).1 gb e.symm).2.2.1; omega)).trans hG5
          have HS6 := Aside0.mk (show Blk W6 w.heap.size 25 [.string a0_0, .slice (some ad) l0_1.length c0_1, .slice A0_2 l0_2.length c0_2] from (hb6.block _ (by omega)).trans ((hb5.block _ (by omega)).trans HS.out))
          have HF6 := Aside0.mk (show Blk W6 (w.heap.size + 1) 66 [.int .i64 0, .int .i64 0] from (hb6.block _ (by omega)).trans ((hb5.block _ (by omega)).trans HF.out))
          have HX6 := Aside0.mk hX6
          have HR6 := Aside0.mk hR6
          have HB6 := Aside0.mk hB6
          have HG6 := Aside0.mk hG6
          have hBl6 := hX6.lt
          clear hX6 hR6 hB6 hb6 hk6 hG6 hG5 hX5 hR5 hB5 hb5 hW5 HG4 HB4 hgb HGB HS HF HX HR HB hz0 hz1 hz2 hq0 hq1 hq2 hx0 hx1 hx2 s0 s1 s2
          obtain ⟨⟨er, nm⟩, hab⟩ : ∃ an, addB names p.f0 = an := ⟨_, rfl⟩
          rw [hab] at HR6 hnl2 ⊢
          have H := HH.out
          rw [hab] at H
          clear HH hab
          dsimp only at H hnl2 HR6 ⊢
          obtain ⟨f0, f1, f2, f3⟩ := fault_cells HF6.out
          obtain ⟨g0, g1, g2⟩ := net_cells HG6.out
          by_cases her : er = 0
          · subst her
            rw [if_pos rfl] at H
            obtain ⟨x, hx, hF⟩ := Option.bind_eq_some_iff.mp H
            obtain ⟨ep, hpe, hx⟩ := Option.bind_eq_some_iff.mp hx
            have HPE := Aside0.mk hpe
            clear H hpe
            by_cases hep : ep = 0
            · subst hep
              rw [if_pos rfl] at hx
              have HA2 := Aside0.mk (show (chkP k (l0_1.drop (i + 1)) (i + 1) nm).bind (chkF k l0_1.length l0_2) = some (r1, r2) from Option.bind_eq_some_iff.mpr ⟨x, hx, hF⟩)
              clear hx hF
              go_wp2_with (go_at_call 72; (with_reducible refine (net_checkPlace.calls k p.f0 p.f1 p.f2 0 _ HPE.out).mono ?_); rintro e W7 ⟨rfl, hb7⟩; have HS7 := Aside0.mk (blk_later HS6.out hb7); have HF7 := Aside0.mk (blk_later HF6.out hb7); have HX7 := Aside0.mk (boxed_later HX6.out hb7); have HR7 := Aside0.mk (Kd.R_below HR6.out hb7); have HB7 := Aside0.mk (below_step HB6.out hb7); clear hb7 HS6 HF6 HX6 HR6 HB6 f0 f1 f2 f3 g0 g1 g2; obtain ⟨f0, f1, f2, f3⟩ := fault_cells HF7.out)
              go_roundw
              case rel => exact ⟨i + 1, nm, v', by go_num, by omega, by omega, HA2, HS7, HF7, HX7, HR7, HB7⟩
              case measure => simp [intOf]; omega
            · rw [if_neg hep] at hx
              obtain rfl := Option.some.inj hx
              simp only [chkF, Option.some.injEq, Prod.mk.injEq] at hF
              obtain ⟨rfl, rfl⟩ := hF
              have q1 : (ep != 0) = true := bne_iff_ne.2 hep
              clear hx hep
              go_wp2_with (go_at_call 72; (with_reducible refine (net_checkPlace.calls k p.f0 p.f1 p.f2 ep _ HPE.out).mono ?_); rintro e W7 ⟨rfl, hb7⟩; have HS7 := Aside0.mk (blk_later HS6.out hb7); have HF7 := Aside0.mk (blk_later HF6.out hb7); have HX7 := Aside0.mk (boxed_later HX6.out hb7); have HR7 := Aside0.mk (Kd.R_below HR6.out hb7); have HB7 := Aside0.mk (below_step HB6.out hb7); clear hb7 HS6 HF6 HX6 HR6 HB6 f0 f1 f2 f3 g0 g1 g2; obtain ⟨f0, f1, f2, f3⟩ := fault_cells HF7.out)
              refine bodyPost_ret (results_cell_row rfl _ _ (w.heap.size + 1) 66 #[.int .i64 ep, .int .i64 (i : Int)] (0, 0) _ rfl (fault_put HF7.out _ _) Try.underlying66 rfl (by kernel_rfl)) rfl ?_
              exact ⟨rfl, (HB7.out.setCell (p := ⟨w.heap.size + 1, 0, none⟩) (by simp) _).setCell (p := ⟨w.heap.size + 1, 1, none⟩) (by simp) _⟩
          · rw [if_neg her, Option.bind_some] at H
            simp only [chkF, Option.some.injEq, Prod.mk.injEq] at H
            obtain ⟨rfl, rfl⟩ := H
            have q0 : (er == 0) = false := beq_eq_false_iff_ne.2 her
            have q1 : (er != 0) = true := bne_iff_ne.2 her
            clear her
            go_wp2
            refine bodyPost_ret (results_cell_row rfl _ _ (w.heap.size + 1) 66 #[.int .i64 er, .int .i64 (i : Int)] (0, 0) _ rfl (fault_put HF6.out _ _) Try.underlying66 rfl (by kernel_rfl)) rfl ?_
            exact ⟨rfl, (HB6.out.setCell (p := ⟨w.heap.size + 1, 0, none⟩) (by simp) _).setCell (p := ⟨w.heap.size + 1, 1, none⟩) (by simp) _⟩
        · obtain rfl : i = l0_1.length := by omega
          have HT := Aside0.mk (show chkT k l0_1.length (l0_2.drop 0) 0 names = some (r1, r2) by
            have h := HA.out
            rw [List.drop_length, chkP, Option.bind_some, chkF] at h
            exact h)
          clear HA hi hlt
          go_wp2
          clear s0 s1 s2 hws
          go_loopw [59] (fun v59 wr => ∃ (i : Nat) (names : List ByteArray) (v : Value), v59 = .int .i64 i ∧ i ≤ l0_2.length ∧ names.length ≤ l0_1.length + i ∧ Aside0 (chkT k l0_1.length (l0_2.drop i) i names = some (r1, r2)) ∧ Aside0 (Blk wr w.heap.size 25 [.string a0_0, .slice A0_1 l0_1.length c0_1, .slice A0_2 l0_2.length c0_2]) ∧ Aside0 (Blk wr (w.heap.size + 1) 66 [.int .i64 0, .int .i64 0]) ∧ Aside0 (Boxed wr B 83 v) ∧ Aside0 (Kd.R Kd.string 9 wr w.heap.size (fun k => B < k) v names) ∧ Aside0 (Below w.heap.size w wr)) (fun v59 _ => l0_2.length - (intOf v59).toNat)
          case atStart => exact ⟨0, names, v, rfl, Nat.zero_le _, by omega, HT, HS, HF, HX, HR, HB⟩
          case round =>
            clear HT HS HF HX HR HB hBl hnl
            obtain ⟨i, names, v, rfl, hi, hnl, HA, HS, HF, HX, HR, HB⟩ := hrel
            obtain ⟨s0, s1, s2⟩ := net_cells HS.out
            obtain ⟨f0, f1, f2, f3⟩ := fault_cells HF.out
            have hws := HB.out.size
            have hBl := HX.out.lt
            by_cases hlt : i < l0_2.length
            · clear f0 f1 f2 f3
              have H := HA.out
              rw [chkT_cons hlt] at H
              clear HA
              obtain ⟨ad, B1, d1, B2, d2, B3, d3, e1, hx0, hx1, hx2, hx3, hx4, le1, ge1, le2, ge2, le3, ge3⟩ := at_T40 HR2.out (i : Int) (by omega) (by omega)
              cases e1
              rw [Int.toNat_natCast] at hx0 hx1 hx2 hx3 hx4
              replace hx0 := (HB.out.cell (World.block_lt_of_cell? w _ hx0)).trans hx0
              replace hx1 := (HB.out.cell (World.block_lt_of_cell? w _ hx1)).trans hx1
              replace hx2 := (HB.out.cell (World.block_lt_of_cell? w _ hx2)).trans hx2
              replace hx3 := (HB.out.cell (World.block_lt_of_cell? w _ hx3)).trans hx3
              replace hx4 := (HB.out.cell (World.block_lt_of_cell? w _ hx4)).trans hx4
              generalize rd_T40 l0_2 (i : Int) = p at H hx0 hx1 hx2 hx3 hx4 le1 ge1 le2 ge2 le3 ge3
              have HG1 := Aside0.mk (And.intro le1 ge1)
              have HG2 := Aside0.mk (And.intro le2 ge2)
              have HG3 := Aside0.mk (And.intro le3 ge3)
              clear le1 ge1 le2 ge2 le3 ge3
              have HH := Aside0.mk H
              clear H
              go_wp2_with ((with_reducible refine gate_dst (N := 9) rfl ?_); refine box_event ?hg (N := 9) ?hd (cs := #[.string ⟨#[]⟩, .slice none 0 0, .slice none 0 0, .slice none 0 0, .int .i64 0]) (t := 40) ?hr ?_; (case hd => rfl); (case hg => rfl); (case hr => first | (go_simp; done) | (go_simp; rfl)); intro gb hgb w4 hbox hb4; have HG4 := Aside0.mk (show Blk w4 gb 40 [.string ⟨#[]⟩, .slice none 0 0, .slice none 0 0, .slice none 0 0, .int .i64 0] from hbox); have hz0 := blk_cell hbox 0; have hz1 := blk_cell hbox 1; have hz2 := blk_cell hbox 2; have hz3 := blk_cell hbox 3; have hz4 := blk_cell hbox 4; have hq0 := blk_frozen hbox 0; have hq1 := blk_frozen hbox 1; have hq2 := blk_frozen hbox 2; have hq3 := blk_frozen hbox 3; have hq4 := blk_frozen hbox 4; have HB4 := Aside0.mk hb4; have HGB := Aside0.mk hgb; clear hbox hb4 hgb)
              obtain ⟨W5, hW5⟩ : ∃ W5, ((((w4.setCell ⟨gb, 0, none⟩ (.string p.f0)).setCell ⟨gb, 1, none⟩ (.slice B1 p.f1.length d1)).setCell ⟨gb, 2, none⟩ (.slice B2 p.f2.length d2)).setCell ⟨gb, 3, none⟩ (.slice B3 p.f3.length d3)).setCell ⟨gb, 4, none⟩ (.int .i64 p.f4) = W5 := ⟨_, rfl⟩
              have hG5 : Blk W5 gb 40 [.string p.f0, .slice B1 p.f1.length d1, .slice B2 p.f2.length d2, .slice B3 p.f3.length d3, .int .i64 p.f4] := hW5 ▸ blk_set 4 _ (blk_set 3 _ (blk_set 2 _ (blk_set 1 _ (blk_set 0 _ HG4.out))))
              have hgb := HGB.out
              have hb5 : Below gb wr W5 := by
                rw [← hW5]
                exact (((((show Below gb wr w4 by rw [hgb]; exact HB4.out).setCell (p := ⟨gb, 0, none⟩) (by simp) _).setCell (p := ⟨gb, 1, none⟩) (by simp) _).setCell (p := ⟨gb, 2, none⟩) (by simp) _).setCell (p := ⟨gb, 3, none⟩) (by simp) _).setCell (p := ⟨gb, 4, none⟩) (by simp) _
              rw [hW5]
              have hX5 : Boxed W5 B 83 v := (hb5.block B (by omega)).trans HX.out
              have hR5 : Kd.R Kd.string 9 W5 w.heap.size (fun k => B < k) v names := Kd.R_below HR.out (by rw [← hgb]; exact hb5)
              have hB5 : Below w.heap.size w W5 := HB.out.trans (hb5.mono (by omega))
              refine (add_calls B v names p.f0 w W5 hB5 (by omega) hX5 hR5 (by omega)).mono ?_
              rintro e W6 ⟨rfl, v', hX6, hR6, hB6, hb6, hk6⟩
              have hnl2 := addB_len names p.f0
              have hG6 : Blk W6 gb 40 [.string p.f0, .slice B1 p.f1.length d1, .slice B2 p.f2.length d2, .slice B3 p.f3.length d3, .int .i64 p.f4] := (hk6 gb (Array.getElem?_eq_some_iff.1 hG5).1 (by omega) (fun e => by have := ((Kd.R_bound HR.out).1 gb e.symm).2.2.1; omega)).trans hG5
              have HS6 := Aside0.mk (show Blk W6 w.heap.size 25 [.string a0_0, .slice A0_1 l0_1.length c0_1, .slice (some ad) l0_2.length c0_2] from (hb6.block _ (by omega)).trans ((hb5.block _ (by omega)).trans HS.out))
              have HF6 := Aside0.mk (show Blk W6 (w.heap.size + 1) 66 [.int .i64 0, .int .i64 0] from (hb6.block _ (by omega)).trans ((hb5.block _ (by omega)).trans HF.out))
              have HX6 := Aside0.mk hX6
              have HR6 := Aside0.mk hR6
              have HB6 := Aside0.mk hB6
              have HG6 := Aside0.mk hG6
              have hBl6 := hX6.lt
              clear hX6 hR6 hB6 hb6 hk6 hG6 hG5 hX5 hR5 hB5 hb5 hW5 HG4 HB4 hgb HGB HS HF HX HR HB hz0 hz1 hz2 hz3 hz4 hq0 hq1 hq2 hq3 hq4 hx0 hx1 hx2 hx3 hx4 s0 s1 s2
              obtain ⟨⟨er, nm⟩, hab⟩ : ∃ an, addB names p.f0 = an := ⟨_, rfl⟩
              rw [hab] at HR6 hnl2 ⊢
              have H := HH.out
              rw [hab] at H
              clear HH hab
              dsimp only at H hnl2 HR6 ⊢
              obtain ⟨f0, f1, f2, f3⟩ := fault_cells HF6.out
              have HV1 := Aside0.mk (show Kd.V k58 58 W6 W6.heap.size (fun k_ => k_ < W6.heap.size) (.slice B1 p.f1.length d1) p.f1 from Kd.V_mk HG1.out.1 (Kd.C_F (Kd.heap_iso _ (Kd.heap_pair (Kd.heap_int _) (Kd.heap_int _))) (Kd.C_below HG1.out.2 HB6.out)))
              have HV2 := Aside0.mk (show Kd.V k58 58 W6 W6.heap.size (fun k_ => k_ < W6.heap.size) (.slice B2 p.f2.length d2) p.f2 from Kd.V_mk HG2.out.1 (Kd.C_F (Kd.heap_iso _ (Kd.heap_pair (Kd.heap_int _) (Kd.heap_int _))) (Kd.C_below HG2.out.2 HB6.out)))
              have HV3 := Aside0.mk (show Kd.V k58 58 W6 W6.heap.size (fun k_ => k_ < W6.heap.size) (.slice B3 p.f3.length d3) p.f3 from Kd.V_mk HG3.out.1 (Kd.C_F (Kd.heap_iso _ (Kd.heap_pair (Kd.heap_int _) (Kd.heap_int _))) (Kd.C_below HG3.out.2 HB6.out)))
              clear HG1 HG2 HG3
              obtain ⟨g0, g1, g2, g3, g4⟩ := trans_cells HG6.out
              obtain ⟨s0, s1, s2⟩ := net_cells HS6.out
              by_cases her : er = 0
              · subst her
                rw [if_pos rfl] at H
                obtain ⟨ep, hpe, hx⟩ := Option.bind_eq_some_iff.mp H
                have HPE := Aside0.mk hpe
                clear H hpe
                by_cases hep : ep = 0
                · subst hep
                  rw [if_pos rfl] at hx
                  have HA2 := Aside0.mk (show chkT k l0_1.length (l0_2.drop (i + 1)) (i + 1) nm = some (r1, r2) from hx)
                  clear hx
                  go_wp2_with (go_at_call 73; (with_reducible refine (net_checkTrans.calls k p.f0 (fun k_ => k_ < W6.heap.size) B1 d1 p.f1 (fun k_ => k_ < W6.heap.size) B2 d2 p.f2 (fun k_ => k_ < W6.heap.size) B3 d3 p.f3 p.f4 (l0_1.length : Int) 0 W6 HV1.out HV2.out HV3.out HPE.out).mono ?_); rintro e W7 ⟨rfl, hb7⟩; have HS7 := Aside0.mk (blk_later HS6.out hb7); have HF7 := Aside0.mk (blk_later HF6.out hb7); have HX7 := Aside0.mk (boxed_later HX6.out hb7); have HR7 := Aside0.mk (Kd.R_below HR6.out hb7); have HB7 := Aside0.mk (below_step HB6.out hb7); clear hb7 HS6 HF6 HX6 HR6 HB6 f0 f1 f2 f3 g0 g1 g2 g3 g4 s0 s1 s2; obtain ⟨s0, s1, s2⟩ := net_cells HS7.out; obtain ⟨f0, f1, f2, f3⟩ := fault_cells HF7.out)
                  go_roundw
                  case rel => exact ⟨i + 1, nm, v', by go_num, by omega, by omega, HA2, HS7, HF7, HX7, HR7, HB7⟩
                  case measure => simp [intOf]; omega
                · rw [if_neg hep] at hx
                  simp only [Option.some.injEq, Prod.mk.injEq] at hx
                  obtain ⟨rfl, rfl⟩ := hx
                  have q1 : (ep != 0) = true := bne_iff_ne.2 hep
                  clear hep
                  have HWR := Aside0.mk (show wrap64 ((l0_1.length : Int) + (i : Int)) = ((l0_1.length + i : Nat) : Int) by unfold wrap64; omega)
                  go_wp2_with (go_at_call 73; (with_reducible refine (net_checkTrans.calls k p.f0 (fun k_ => k_ < W6.heap.size) B1 d1 p.f1 (fun k_ => k_ < W6.heap.size) B2 d2 p.f2 (fun k_ => k_ < W6.heap.size) B3 d3 p.f3 p.f4 (l0_1.length : Int) ep W6 HV1.out HV2.out HV3.out HPE.out).mono ?_); rintro e W7 ⟨rfl, hb7⟩; have HS7 := Aside0.mk (blk_later HS6.out hb7); have HF7 := Aside0.mk (blk_later HF6.out hb7); have HX7 := Aside0.mk (boxed_later HX6.out hb7); have HR7 := Aside0.mk (Kd.R_below HR6.out hb7); have HB7 := Aside0.mk (below_step HB6.out hb7); clear hb7 HS6 HF6 HX6 HR6 HB6 f0 f1 f2 f3 g0 g1 g2 g3 g4 s0 s1 s2; obtain ⟨s0, s1, s2⟩ := net_cells HS7.out; obtain ⟨f0, f1, f2, f3⟩ := fault_cells HF7.out)
                  refine bodyPost_ret (results_cell_row rfl _ _ (w.heap.size + 1) 66 #[.int .i64 ep, .int .i64 _] (0, 0) _ rfl (fault_put HF7.out _ _) Try.underlying66 rfl (by kernel_rfl)) rfl ?_
                  exact ⟨by (first | rw [HWR.out] | simp), (HB7.out.setCell (p := ⟨w.heap.size + 1, 0, none⟩) (by simp) _).setCell (p := ⟨w.heap.size + 1, 1, none⟩) (by simp) _⟩
              · rw [if_neg her] at H
                simp only [Option.some.injEq, Prod.mk.injEq] at H
                obtain ⟨rfl, rfl⟩ := H
                have q0 : (er == 0) = false := beq_eq_false_iff_ne.2 her
                have q1 : (er != 0) = true := bne_iff_ne.2 her
                clear her
                have HWR := Aside0.mk (show wrap64 ((l0_1.length : Int) + (i : Int)) = ((l0_1.length + i : Nat) : Int) by unfold wrap64; omega)
                go_wp2
                refine bodyPost_ret (results_cell_row rfl _ _ (w.heap.size + 1) 66 #[.int .i64 er, .int .i64 _] (0, 0) _ rfl (fault_put HF6.out _ _) Try.underlying66 rfl (by kernel_rfl)) rfl ?_
                exact ⟨by (first | rw [HWR.out] | simp), (HB6.out.setCell (p := ⟨w.heap.size + 1, 0, none⟩) (by simp) _).setCell (p := ⟨w.heap.size + 1, 1, none⟩) (by simp) _⟩
            · obtain rfl : i = l0_2.length := by omega
              have h := HA.out
              rw [List.drop_length, chkT] at h
              simp only [Option.some.injEq, Prod.mk.injEq] at h
              obtain ⟨rfl, rfl⟩ := h
              clear HA hi hlt
              go_wp2
              refine bodyPost_ret (results_cell_row rfl _ _ (w.heap.size + 1) 66 #[.int .i64 0, .int .i64 0] (0, 0) _ rfl (fault_put HF.out _ _) Try.underlying66 rfl (by kernel_rfl)) rfl ?_
              exact ⟨rfl, (HB.out.setCell (p := ⟨w.heap.size + 1, 0, none⟩) (by simp) _).setCell (p := ⟨w.heap.size + 1, 1, none⟩) (by simp) _⟩


end



/-! ### bitset_With: function 83 -/
def bitset_With.f (a0 : Int) (a1 : Int) : Option (Int) := if a1 < 0 then (some a0) else (if a1 > 63 then (some a0) else (if 0 ≤ (IntKind.u64.wrap (a1)) then (some (Go.bits .or .u64 a0 (shl .u64 1 (IntKind.u64.wrap (a1))))) else (none)))
set_option maxHeartbeats 8000000 in
set_option maxRecDepth 100000 in
theorem bitset_With.calls (a0 : Int) (a1 : Int) (r : Int) (w : World) (h : bitset_With.f a0 a1 = some r) :
  Calls Try.prog 83 #[.int .u64 a0, .int .i64 a1] w fun e w' => e = .returned (.int .u64 r) ∧ Drawn0 w w' := by
 have H : (if a1 < 0 then (some a0) else (if a1 > 63 then (some a0) else (if 0 ≤ (IntKind.u64.wrap (a1)) then (some (Go.bits .or .u64 a0 (shl .u64 1 (IntKind.u64.wrap (a1))))) else (none)))) = some r := h
 clear h
 by_cases c3 : a1 < 0
 ·
  rw [if_pos c3] at H
  have c3b0 : decide (a1 < 0) = true := decide_eq_true c3
  clear c3
  obtain rfl := Option.some.inj H
  go_enter Try.func83, Try.ntmps83
  go_wp2
  go_ret
  exact ⟨by first | rfl | (simp; done) | (simp [*]; done), by repeat (first | exact Drawn0.refl _ | apply Drawn0.step)⟩
 ·
  rw [if_neg c3] at H
  have c3b0 : decide (a1 < 0) = false := decide_eq_false c3
  clear c3
  by_cases c4 : a1 > 63
  ·
   rw [if_pos c4] at H
   have c4b0 : decide (63 < a1) = true := decide_eq_true c4
   clear c4
   obtain rfl := Option.some.inj H
   go_enter Try.func83, Try.ntmps83
   go_wp2
   go_ret
   exact ⟨by first | rfl | (simp; done) | (simp [*]; done), by repeat (first | exact Drawn0.refl _ | apply Drawn0.step)⟩
  ·
   rw [if_neg c4] at H
   have c4b0 : decide (63 < a1) = false := decide_eq_false c4
   clear c4
   obtain ⟨ji5, hji5⟩ : ∃ j_ : Int, (IntKind.u64.wrap (a1)) = j_ := ⟨_, rfl⟩
   replace H : (if 0 ≤ (ji5) then (some (Go.bits .or .u64 a0 (shl .u64 1 (ji5)))) else (none)) = some r := by first | (rw [hji5] at H; exact H) | (simp only [hji5] at H ⊢; exact H)
   by_cases c6 : 0 ≤ (ji5)
   ·
    rw [if_pos c6] at H
    have c6b0 := eq_true c6
    have c6b1 : decide (0 ≤ (ji5)) = true := decide_eq_true c6
    clear c6
    obtain ⟨ji7, hji7⟩ : ∃ j_ : Int, (shl .u64 1 (ji5)) = j_ := ⟨_, rfl⟩
    replace H : (some (Go.bits .or .u64 a0 (ji7))) = some r := by first | (rw [hji7] at H; exact H) | (simp only [hji7] at H ⊢; exact H)
    have hji7_ : (IntKind.u64.wrap (1 * 2 ^ min (ji5).toNat 64)) = ji7 := hji7
    have hji7z : (ji5) ≤ 64 → (IntKind.u64.wrap (1 * 2 ^ (ji5).toNat)) = ji7 := shl_small hji7
    have hji7u : (IntKind.u64.wrap (2 ^ min (ji5).toNat 64)) = ji7 := by have h_ := hji7_; rw [Int.one_mul] at h_; exact h_
    have hji7v : (ji5) ≤ 64 → (IntKind.u64.wrap (2 ^ (ji5).toNat)) = ji7 := fun hle_ => by have h_ := hji7z hle_; rw [Int.one_mul] at h_; exact h_
    obtain rfl := Option.some.inj H
    go_enter Try.func83, Try.ntmps83
    go_wp2
    go_ret
    exact ⟨by first | rfl | (simp; done) | (simp only [← hji5, ← hji7] <;> (first | rfl | simp)) | (simp [*]; done), by repeat (first | exact Drawn0.refl _ | apply Drawn0.step)⟩
   ·
    rw [if_neg c6] at H
    exact absurd H (by simp)


/-! ### siphon_places: function 74 -/
def siphon_places.l0 : Nat → Int → List (S58) → Int → Int → Option (Int)
 | 0, _, _, _, _ => none
 | k + 1, x3, x6, x7, x8 => if x8 < x7 then (if 0 ≤ x8 then (if x8 < (x6.length : Int) then ((bitset_With.f x3 ((rd_T58 x6 x8).f0)).bind fun t119 => (siphon_places.l0 k t119 x6 x7 (wrap64 (x8 + 1)))) else (none)) else (none)) else (some x3)
def siphon_places.f (k : Nat) (l0 : List (S58)) : Option (Int) := siphon_places.l0 k 0 l0 (l0.length : Int) 0
theorem siphon_places.mono_l : ∀ k, (∀ y0 y1 y2 y3, LeO (siphon_places.l0 k y0 y1 y2 y3) (siphon_places.l0 (k + 1) y0 y1 y2 y3))
 | 0 => fun _ _ _ _ r h => by simp [siphon_places.l0] at h
 | k + 1 => by
  have ih0 := siphon_places.mono_l k
  ·
   intro y0 y1 y2 y3
   unfold siphon_places.l0
   repeat' first
   | (with_reducible exact ih0 _ _ _ _)
   | (with_reducible exact LeO.refl _)
   | (with_reducible exact LeO.none _)
   | (with_reducible refine LeO.ite ?_ ?_)
   | (with_reducible refine LeO.bind ?_ (fun _ => ?_))
   | exact ih0 _ _ _ _
   | exact LeO.none _
   | refine LeO.ite ?_ ?_
   | refine LeO.bind ?_ (fun _ => ?_)
theorem siphon_places.mono : ∀ a0 k, LeO (siphon_places.f k a0) (siphon_places.f (k + 1) a0) := by
 intro a0 k
 have ih0 := siphon_places.mono_l k
 unfold siphon_places.f
 repeat' first
   | (with_reducible exact ih0 _ _ _ _)
   | (with_reducible exact LeO.refl _)
   | (with_reducible exact LeO.none _)
   | (with_reducible refine LeO.ite ?_ ?_)
   | (with_reducible refine LeO.bind ?_ (fun _ => ?_))
   | exact ih0 _ _ _ _
   | exact LeO.none _
   | refine LeO.ite ?_ ?_
   | refine LeO.bind ?_ (fun _ => ?_)
set_option maxHeartbeats 8000000 in
set_option maxRecDepth 100000 in
theorem siphon_places.calls (k : Nat) (A0 : Option Addr) (c0 : Nat) (l0 : List (S58)) (r : Int) (w : World) (hr0 : Kd.C k58 w A0 l0.length l0) (hc0 : l0.length ≤ c0) (h : siphon_places.f k l0 = some r) :
  Calls Try.prog 74 #[.slice A0 l0.length c0] w fun e w' => e = .returned (.int .u64 r) ∧ Below w.heap.size w w' := by
 have hu58 := Try.underlying58
 have hu3 := Try.underlying3
 have HR0 := Aside0.mk hr0
 have HC0 := Aside0.mk hc0
 clear hr0 hc0
 have HB := Aside0.mk (Below.refl w.heap.size w)
 have H : (siphon_places.l0 k 0 l0 (l0.length : Int) 0) = some r := h
 clear h
 have H' := Aside0.mk H
 clear H
 go_enter Try.func74, Try.ntmps74
 go_wp2
 go_loopg [3, 8] k (fun kq v3 v8 w' => ∃ (x3_1 : Int) (x8_1 : Int), v3 = .int .u64 x3_1 ∧ v8 = .int .i64 x8_1 ∧ Aside0 (siphon_places.l0 kq x3_1 l0 (l0.length : Int) x8_1 = some r) ∧ Aside0 (kq ≤ k) ∧ Aside0 (Below w.heap.size w w'))
 case atStart => exact ⟨(0), (0), (by first | rfl | (simp; done) | (simp [*]; done) | (simp [i64_w]; done)), (by first | rfl | (simp; done) | (simp [*]; done) | (simp [i64_w]; done)), H', ⟨Nat.le_refl _⟩, ⟨by repeat (first | (with_reducible first | exact HB.out | apply below_alloc | apply pw_below_drewN | apply below_drew1) | exact HB.out)⟩⟩
 case round =>
  clear H'
  obtain ⟨x3_1, x8_1, rfl, rfl, HA, HK1, HB⟩ := hrel
  cases gk with
  | zero => exact absurd HA.out (by simp [siphon_places.l0])
  | succ k1 =>
   have H := HA.out
   clear HA
   simp only [siphon_places.l0] at H
   by_cases c2 : x8_1 < (l0.length : Int)
   ·
    rw [if_pos c2] at H
    have c2b0 : decide (x8_1 < (l0.length : Int)) = true := decide_eq_true c2
    clear c2
    by_cases c3 : 0 ≤ x8_1
    ·
     rw [if_pos c3] at H
     have c3b0 : decide (0 ≤ x8_1) = true := decide_eq_true c3
     clear c3
     by_cases c4 : x8_1 < (l0.length : Int)
     ·
      rw [if_pos c4] at H
      have c4b0 : decide (x8_1 < (l0.length : Int)) = true := decide_eq_true c4
      clear c4
      replace H := Option.bind_eq_some_iff.mp H
      obtain ⟨t119, A50, H⟩ := H
      replace H : (siphon_places.l0 k1 t119 l0 (l0.length : Int) (wrap64 (x8_1 + 1))) = some r := H
      have A5 := Aside0.mk A50
      clear A50
      have H' := Aside0.mk H
      clear H
      have p117 : 0 ≤ (x8_1 : Int) := of_decide_eq_true (by first | (with_reducible assumption) | assumption)
      have q117 : x8_1 < (l0.length : Int) := of_decide_eq_true (by first | (with_reducible assumption) | assumption)
      obtain ⟨ad117, e117, hx117_0, hx117_1⟩ := at_T58 HR0.out x8_1 p117 q117
      cases e117
      replace hx117_0 := (HB.out.cell (World.block_lt_of_cell? w _ hx117_0)).trans hx117_0
      replace hx117_1 := (HB.out.cell (World.block_lt_of_cell? w _ hx117_1)).trans hx117_1
      replace p117 := eq_true p117
      replace q117 := eq_true q117
      go_wp2_with (first | ((with_reducible refine gate_dst (N := 5) rfl ?_); refine box_event ?hg (N := 5) ?hd (cs := #[.int .i64 0, .int .i64 0]) (t := 58) ?hr ?_; (case hd => rfl); (case hg => rfl); (case hr => first | (go_simp; done) | (go_simp; rfl)); intro gb118 hg w6 hbox hb; have n0_ := Aside0.mk (below_step (by repeat (first | (with_reducible first | exact HB.out | apply below_alloc | apply pw_below_drewN | apply below_drew1) | exact HB.out)) hb); have n1_ := Aside0.mk (hbox); have n2_ := Aside0.mk ((by rw [hg]; exact (below_size (by repeat (first | (with_reducible first | exact HB.out | apply below_alloc | apply pw_below_drewN | apply below_drew1) | exact HB.out))) : w.heap.size ≤ gb118)); have n3_ := Aside0.mk ((by rw [hg]; exact (below_size (by repeat (first | (with_reducible first | exact HB.out | apply below_alloc | apply pw_below_drewN | apply below_drew1) | exact HB.out))) : w.heap.size ≤ gb118)); clear HB; have HB := n0_; have BK118 := n1_; have GW118 := n2_; have GE118 := n3_; clear n0_ n1_ n2_ n3_; clear hb hbox hg; have hcz7_0 : w6.cell? ⟨gb118, 0, none⟩ = some (.int .i64 0) := (blk_cell BK118.out 0).trans rfl; have hcz7_1 : w6.cell? ⟨gb118, 1, none⟩ = some (.int .i64 0) := (blk_cell BK118.out 1).trans rfl; have hfz7_0 := blk_frozen BK118.out 0; have hfz7_1 := blk_frozen BK118.out 1) | ((with_reducible refine gate_callee (f := 83) rfl ?_); refine goesL_ (some 15) rfl rfl Try.func83 (by kernel_rfl) rfl #[.int .u64 x3_1, .int .i64 ((rd_T58 l0 x8_1).f0)] rfl (by (try simp only [List.map_toArray, List.map_cons, List.map_nil]); first | done | rfl | (simp only [List.length_drop, List.length_take]; rfl)) ?_; (with_reducible refine (bitset_With.calls x3_1 ((rd_T58 l0 x8_1).f0) t119 _ A5.out).mono ?_); rintro e w' ⟨rfl, ⟨nd, rfl⟩⟩; refine ⟨_, rfl, ?_⟩))
      go_roundg k1
      case measure => have := HK1.out; omega
      case rel => exact ⟨(t119), (wrap64 (x8_1 + 1)), (by first | rfl | (simp; done) | (simp [*]; done) | (simp [i64_w]; done)), (by first | rfl | (simp; done) | (simp [*]; done) | (simp [i64_w]; done)), H', ⟨by have := HK1.out; omega⟩, ⟨by repeat (first | (with_reducible first | exact HB.out | apply below_alloc | apply pw_below_drewN | apply below_drew1 | refine below_set ?_ GE118.out) | exact HB.out)⟩⟩
     ·
      rw [if_neg c4] at H
      exact absurd H (by simp)
    ·
     rw [if_neg c3] at H
     exact absurd H (by simp)
   ·
    rw [if_neg c2] at H
    have c2b0 : decide (x8_1 < (l0.length : Int)) = false := decide_eq_false c2
    clear c2
    obtain rfl := Option.some.inj H
    go_wp2
    go_ret
    exact ⟨by first | rfl | (simp [errW_none, errW_some] <;> rfl) | (simp [*, errW_none, errW_some] <;> rfl), by repeat (first | (with_reducible first | exact HB.out | apply below_alloc | apply pw_below_drewN | apply below_drew1) | exact HB.out)⟩


/-! ### siphon_side: function 59 -/
def siphon_side.f (k : Nat) (a0_0 : ByteArray) (l0_1 : List (S58)) (l0_2 : List (S58)) (l0_3 : List (S58)) (a0_4 : Int) (a1 : Bool) : Option (Int × Int) := if a1 = true then ((siphon_places.f k l0_1).bind fun t121 => ((siphon_places.f k l0_2).bind fun t122 => (some (t121, t122)))) else ((siphon_places.f k l0_2).bind fun t123 => ((siphon_places.f k l0_1).bind fun t124 => (some (t123, t124))))
theorem siphon_side.mono : ∀ a0 a1 a2 a3 a4 a5 k, LeO (siphon_side.f k a0 a1 a2 a3 a4 a5) (siphon_side.f (k + 1) a0 a1 a2 a3 a4 a5) := by
 intro a0 a1 a2 a3 a4 a5 k
 unfold siphon_side.f
 repeat' first
   | (with_reducible exact siphon_places.mono _ _)
   | (with_reducible exact LeO.refl _)
   | (with_reducible exact LeO.none _)
   | (with_reducible refine LeO.ite ?_ ?_)
   | (with_reducible refine LeO.bind ?_ (fun _ => ?_))
   | exact siphon_places.mono _ _
   | exact LeO.none _
   | refine LeO.ite ?_ ?_
   | refine LeO.bind ?_ (fun _ => ?_)
def siphon_side.T2 : Bool × List (List Nat × List Nat) := (true, [([], []), ([0], [0]), ([1], [1]), ([], []), ([3], [3]), ([4, 2], [4]), ([2, 5, 0, 1, 2], [2]), ([5, 6, 0, 1, 2, 3, 4, 5, 6], [5])])
def siphon_side.B2 : List Nat := [0, 1, 3, 0, 8, 31, 63, 127]
theorem siphon_side.tab2 : rtab .any (opsOf Try.f59 2) = siphon_side.T2 := by kernel_rfl
theorem siphon_side.bits2 : waitsOk siphon_side.T2.2 siphon_side.B2 = true := by kernel_rfl
def siphon_side.T3 : Bool × List (List Nat × List Nat) := (true, [([], []), ([0], [0]), ([1], [1]), ([], []), ([3], [3]), ([4, 2], [4]), ([2, 5, 0, 1, 2], [2]), ([5, 6, 0, 1, 2, 3, 4, 5, 6], [5])])
def siphon_side.B3 : List Nat := [0, 1, 3, 0, 8, 31, 63, 127]
theorem siphon_side.tab3 : rtab .any (opsOf Try.f59 3) = siphon_side.T3 := by kernel_rfl
theorem siphon_side.bits3 : waitsOk siphon_side.T3.2 siphon_side.B3 = true := by kernel_rfl
set_option maxHeartbeats 8000000 in
set_option maxRecDepth 100000 in
theorem siphon_side.calls (k : Nat) (a0_0 : ByteArray) (A0_1 : Option Addr) (c0_1 : Nat) (l0_1 : List (S58)) (A0_2 : Option Addr) (c0_2 : Nat) (l0_2 : List (S58)) (A0_3 : Option Addr) (c0_3 : Nat) (l0_3 : List (S58)) (a0_4 : Int) (a1 : Bool) (r1 : Int) (r2 : Int) (w : World) (hr0_1 : Kd.C k58 w A0_1 l0_1.length l0_1) (hc0_1 : l0_1.length ≤ c0_1) (hr0_2 : Kd.C k58 w A0_2 l0_2.length l0_2) (hc0_2 : l0_2.length ≤ c0_2) (hr0_3 : Kd.C k58 w A0_3 l0_3.length l0_3) (hc0_3 : l0_3.length ≤ c0_3) (h : siphon_side.f k a0_0 l0_1 l0_2 l0_3 a0_4 a1 = some (r1, r2)) :
  Calls Try.prog 59 #[.agg #[.string a0_0, .slice A0_1 l0_1.length c0_1, .slice A0_2 l0_2.length c0_2, .slice A0_3 l0_3.length c0_3, .int .i64 a0_4], .bool a1] w fun e w' => e = .returned (.tuple #[.int .u64 r1, .int .u64 r2]) ∧ Below w.heap.size w w' := by
 have hu40 := Try.underlying40
 have hu3 := Try.underlying3
 have hu9 := Try.underlying9
 have hu38 := Try.underlying38
 have HR0_1 := Aside0.mk hr0_1
 have HC0_1 := Aside0.mk hc0_1
 clear hr0_1 hc0_1
 have HR0_2 := Aside0.mk hr0_2
 have HC0_2 := Aside0.mk hc0_2
 clear hr0_2 hc0_2
 have HR0_3 := Aside0.mk hr0_3
 have HC0_3 := Aside0.mk hc0_3
 clear hr0_3 hc0_3
 have HB := Aside0.mk (Below.refl w.heap.size w)
 have H : (if a1 = true then ((siphon_places.f k l0_1).bind fun t121 => ((siphon_places.f k l0_2).bind fun t122 => (some (t121, t122)))) else ((siphon_places.f k l0_2).bind fun t123 => ((siphon_places.f k l0_1).bind fun t124 => (some (t123, t124))))) = some (r1, r2) := h
 clear h
 by_cases c3 : a1 = true
 ·
  subst c3
  have H1 : ((siphon_places.f k l0_1).bind fun t121 => ((siphon_places.f k l0_2).bind fun t122 => (some (t121, t122)))) = some (r1, r2) := by rw [if_pos rfl] at H; exact H
  clear H
  have H := H1
  clear H1
  replace H := Option.bind_eq_some_iff.mp H
  obtain ⟨t121, A40, H⟩ := H
  replace H : ((siphon_places.f k l0_2).bind fun t122 => (some (t121, t122))) = some (r1, r2) := H
  have A4 := Aside0.mk A40
  clear A40
  replace H := Option.bind_eq_some_iff.mp H
  obtain ⟨t122, A50, H⟩ := H
  replace H : (some (t121, t122)) = some (r1, r2) := H
  have A5 := Aside0.mk A50
  clear A50
  simp only [Option.some.injEq, Prod.mk.injEq] at H
  obtain ⟨rfl, rfl⟩ := H
  go_enter Try.func59, Try.ntmps59
  try go_wp2_with (first | ((with_reducible refine gate_dst (N := 2) rfl ?_); refine box_event ?hg (N := 2) ?hd (cs := #[.string a0_0, .slice A0_1 l0_1.length c0_1, .slice A0_2 l0_2.length c0_2, .slice A0_3 l0_3.length c0_3, .int .i64 a0_4]) (t := 40) ?hr ?_; (case hd => rfl); (case hg => rfl); (case hr => first | (go_simp; done) | (go_simp; rfl)); intro gb120 hg w6 hbox hb; have n0_ := Aside0.mk (below_step (by repeat (first | (with_reducible first | exact HB.out | apply below_alloc | apply pw_below_drewN | apply below_drew1) | exact HB.out)) hb); have n1_ := Aside0.mk (hbox); have n2_ := Aside0.mk ((by rw [hg]; exact (below_size (by repeat (first | (with_reducible first | exact HB.out | apply below_alloc | apply pw_below_drewN | apply below_drew1) | exact HB.out))) : w.heap.size ≤ gb120)); have n3_ := Aside0.mk ((by rw [hg]; exact (below_size (by repeat (first | (with_reducible first | exact HB.out | apply below_alloc | apply pw_below_drewN | apply below_drew1) | exact HB.out))) : w.heap.size ≤ gb120)); clear HB; have HB := n0_; have BK120 := n1_; have GW120 := n2_; have GE120 := n3_; clear n0_ n1_ n2_ n3_; clear hb hbox hg))
  have n0_ := Aside0.mk (blk_drew BK120.out)
  have n1_ := Aside0.mk (below_drew1 HB.out)
  clear BK120
  clear HB
  have BK120 := n0_
  have HB := n1_
  clear n0_ n1_
  refine start_ (n := 8) (S := fun w' => w'.cell? ⟨gb120, 0, none⟩ = some (.string a0_0) ∧ w'.cell? ⟨gb120, 1, none⟩ = some (.slice A0_1 l0_1.length c0_1) ∧ w'.cell? ⟨gb120, 2, none⟩ = some (.slice A0_2 l0_2.length c0_2) ∧ w'.cell? ⟨gb120, 3, none⟩ = some (.slice A0_3 l0_3.length c0_3) ∧ w'.cell? ⟨gb120, 4, none⟩ = some (.int .i64 a0_4)) (ds := []) #[false, false, false, false, false, false, false, false] (by kernel_rfl) rfl rfl ⟨(blk_cell BK120.out 0).trans rfl, (blk_cell BK120.out 1).trans rfl, (blk_cell BK120.out 2).trans rfl, (blk_cell BK120.out 3).trans rfl, (blk_cell BK120.out 4).trans rfl⟩ (fun hHeld => ?_); refine with_tabW siphon_side.tab2 siphon_side.bits2 (fun HT_ HW_ => ?_)
  generalize w6.drew = w7 at BK120 HB hHeld ⊢
  refine pure_ (i := 0) (N := some 7) (v := ?_) (a' := ?_) #[true, false, false, false, false, false, false, false] rfl rfl (any_of HT_.out (by kernel_rfl)) (fun _ _ _ h => h) (Or.inl ⟨by rfl, ?_⟩) ?_ ?_
  rotate_left
  ·
   intro w'
   go_simp
   with_reducible rfl
  rotate_left
  ·
   simp only [Act.put, List.setIfInBounds_toArray, List.set_cons_zero, List.set_cons_succ, i64_w, i32_w]
   rfl
  refine pure_ (i := 3) (N := some 10) (v := ?_) (a' := ?_) #[true, false, false, true, false, false, false, false] rfl rfl (any_of HT_.out (by kernel_rfl)) (fun _ _ _ h => h) (Or.inl ⟨by rfl, ?_⟩) ?_ ?_
  rotate_left
  ·
   intro w'
   go_simp
   with_reducible rfl
  rotate_left
  ·
   simp only [Act.put, List.setIfInBounds_toArray, List.set_cons_zero, List.set_cons_succ, i64_w, i32_w]
   rfl
  refine take_ (i := 1) (N := some 8) (v := ?_) (a' := ?_) #[true, true, false, true, false, false, false, false] rfl rfl (take_ofW HT_.out HW_.out (by kernel_rfl)) (fun _ _ _ h => h) (Or.inl ⟨by rfl, ?_⟩) hHeld ?_ ?_
  rotate_left
  ·
   rintro w' ⟨s0, s1, s2, s3, s4⟩
   go_simp
   with_reducible rfl
  rotate_left
  ·
   simp only [Act.put, List.setIfInBounds_toArray, List.set_cons_zero, List.set_cons_succ, i64_w, i32_w]
   rfl
  refine take_ (i := 4) (N := some 11) (v := ?_) (a' := ?_) #[true, true, false, true, true, false, false, false] rfl rfl (take_ofW HT_.out HW_.out (by kernel_rfl)) (fun _ _ _ h => h) (Or.inl ⟨by rfl, ?_⟩) hHeld ?_ ?_
  rotate_left
  ·
   rintro w' ⟨s0, s1, s2, s3, s4⟩
   go_simp
   with_reducible rfl
  rotate_left
  ·
   simp only [Act.put, List.setIfInBounds_toArray, List.set_cons_zero, List.set_cons_succ, i64_w, i32_w]
   rfl
  refine one_ (i := 2) (N := some 9) #[true, true, true, true, true, false, false, false] rfl rfl (one_of HT_.out (by kernel_rfl)) (by decide) (fun K hK => ?_)
  refine goes_ Try.func74 (by kernel_rfl) rfl #[.slice A0_1 l0_1.length c0_1] (by rfl) rfl rfl (by (try simp only [List.map_toArray, List.map_cons, List.map_nil]); first | done | rfl | (simp only [List.length_drop, List.length_take]; rfl)) ?_
  with_reducible refine (siphon_places.calls k _ _ l0_1 t121 _ ?side1 ?side2 A4.out).mono ?_
  (case side1 => repeat (first | exact (Kd.C_below HR0_1.out HB.out) | (with_reducible refine Kd.C_alloc ?_ _) | (with_reducible refine Kd.C_drewN ?_ _) | (with_reducible refine Kd.C_drew ?_)))
  (case side2 => exact HC0_1.out)
  rintro e w8 ⟨rfl, hb⟩
  refine ⟨_, rfl, ?_⟩
  have n0_ := Aside0.mk (blk_below (g := gb120) (o := .cells #[.string a0_0, .slice A0_1 l0_1.length c0_1, .slice A0_2 l0_2.length c0_2, .slice A0_3 l0_3.length c0_3, .int .i64 a0_4] 40 (0, 0)) (by (with_reducible repeat (first | refine blk_drewN ?_ _ | refine blk_drew ?_ | refine blk_alloc ?_ _)); exact BK120.out) hb)
  have n1_ := Aside0.mk (below_step (by repeat (first | (with_reducible first | exact HB.out | apply below_alloc | apply pw_below_drewN | apply below_drew1 | refine below_set ?_ GE120.out) | exact HB.out)) hb)
  clear BK120
  clear HB
  have BK120 := n0_
  have HB := n1_
  clear n0_ n1_
  (try clear hb)
  (try clear hb2)
  (try clear hk)
  (try clear hi)
  refine hK.out _ _ ⟨(blk_cell BK120.out 0).trans rfl, (blk_cell BK120.out 1).trans rfl, (blk_cell BK120.out 2).trans rfl, (blk_cell BK120.out 3).trans rfl, (blk_cell BK120.out 4).trans rfl⟩ (fun hHeld => ?_)
  clear hK K
  refine norm_ (a' := ?_) ?_ ?_
  rotate_left
  ·
   show Act.put _ (some 9) _ = _
   simp only [Act.put, List.setIfInBounds_toArray, List.set_cons_zero, List.set_cons_succ, i64_w, i32_w]
   rfl
  refine one_ (i := 5) (N := some 12) #[true, true, true, true, true, true, false, false] rfl rfl (one_of HT_.out (by kernel_rfl)) (by decide) (fun K hK => ?_)
  refine goes_ Try.func74 (by kernel_rfl) rfl #[.slice A0_2 l0_2.length c0_2] (by rfl) rfl rfl (by (try simp only [List.map_toArray, List.map_cons, List.map_nil]); first | done | rfl | (simp only [List.length_drop, List.length_take]; rfl)) ?_
  with_reducible refine (siphon_places.calls k _ _ l0_2 t122 _ ?side1 ?side2 A5.out).mono ?_
  (case side1 => repeat (first | exact (Kd.C_below HR0_2.out HB.out) | (with_reducible refine Kd.C_alloc ?_ _) | (with_reducible refine Kd.C_drewN ?_ _) | (with_reducible refine Kd.C_drew ?_)))
  (case side2 => exact HC0_2.out)
  rintro e w9 ⟨rfl, hb⟩
  refine ⟨_, rfl, ?_⟩
  have n0_ := Aside0.mk (blk_below (g := gb120) (o := .cells #[.string a0_0, .slice A0_1 l0_1.length c0_1, .slice A0_2 l0_2.length c0_2, .slice A0_3 l0_3.length c0_3, .int .i64 a0_4] 40 (0, 0)) (by (with_reducible repeat (first | refine blk_drewN ?_ _ | refine blk_drew ?_ | refine blk_alloc ?_ _)); exact BK120.out) hb)
  have n1_ := Aside0.mk (below_step (by repeat (first | (with_reducible first | exact HB.out | apply below_alloc | apply pw_below_drewN | apply below_drew1 | refine below_set ?_ GE120.out) | exact HB.out)) hb)
  clear BK120
  clear HB
  have BK120 := n0_
  have HB := n1_
  clear n0_ n1_
  (try clear hb)
  (try clear hb2)
  (try clear hk)
  (try clear hi)
  refine hK.out _ _ ⟨(blk_cell BK120.out 0).trans rfl, (blk_cell BK120.out 1).trans rfl, (blk_cell BK120.out 2).trans rfl, (blk_cell BK120.out 3).trans rfl, (blk_cell BK120.out 4).trans rfl⟩ (fun hHeld => ?_)
  clear hK K
  refine norm_ (a' := ?_) ?_ ?_
  rotate_left
  ·
   show Act.put _ (some 12) _ = _
   simp only [Act.put, List.setIfInBounds_toArray, List.set_cons_zero, List.set_cons_succ, i64_w, i32_w]
   rfl
  refine pure_ (i := 6) (N := some 4) (v := ?_) (a' := ?_) #[true, true, true, true, true, true, true, false] rfl rfl (any_of HT_.out (by kernel_rfl)) (fun _ _ _ h => h) (Or.inl ⟨by rfl, ?_⟩) ?_ ?_
  rotate_left
  ·
   intro w'
   go_simp
   with_reducible rfl
  rotate_left
  ·
   simp only [Act.put, List.setIfInBounds_toArray, List.set_cons_zero, List.set_cons_succ, i64_w, i32_w]
   rfl
  refine pure_ (i := 7) (N := some 5) (v := ?_) (a' := ?_) #[true, true, true, true, true, true, true, true] rfl rfl (any_of HT_.out (by kernel_rfl)) (fun _ _ _ h => h) (Or.inl ⟨by rfl, ?_⟩) ?_ ?_
  rotate_left
  ·
   intro w'
   go_simp
   with_reducible rfl
  rotate_left
  ·
   simp only [Act.put, List.setIfInBounds_toArray, List.set_cons_zero, List.set_cons_succ, i64_w, i32_w]
   rfl
  refine done_ (done_of HT_.out (by kernel_rfl)) ?_
  try go_wp2
  go_ret2
  exact ⟨by first | rfl | (simp [errW_none, errW_some] <;> rfl) | (simp [*, errW_none, errW_some] <;> rfl), by repeat (first | (with_reducible first | exact HB.out | apply below_alloc | apply pw_below_drewN | apply below_drew1 | refine below_set ?_ GE120.out) | exact HB.out)⟩
 ·
  replace c3 := Bool.eq_false_iff.mpr c3
  subst c3
  have H1 : ((siphon_places.f k l0_2).bind fun t123 => ((siphon_places.f k l0_1).bind fun t124 => (some (t123, t124)))) = some (r1, r2) := by rw [if_neg (show ¬ (false = true) by decide)] at H; exact H
  clear H
  have H := H1
  clear H1
  replace H := Option.bind_eq_some_iff.mp H
  obtain ⟨t123, A100, H⟩ := H
  replace H : ((siphon_places.f k l0_1).bind fun t124 => (some (t123, t124))) = some (r1, r2) := H
  have A10 := Aside0.mk A100
  clear A100
  replace H := Option.bind_eq_some_iff.mp H
  obtain ⟨t124, A110, H⟩ := H
  replace H : (some (t123, t124)) = some (r1, r2) := H
  have A11 := Aside0.mk A110
  clear A110
  simp only [Option.some.injEq, Prod.mk.injEq] at H
  obtain ⟨rfl, rfl⟩ := H
  go_enter Try.func59, Try.ntmps59
  try go_wp2_with (first | ((with_reducible refine gate_dst (N := 2) rfl ?_); refine box_event ?hg (N := 2) ?hd (cs := #[.string a0_0, .slice A0_1 l0_1.length c0_1, .slice A0_2 l0_2.length c0_2, .slice A0_3 l0_3.length c0_3, .int .i64 a0_4]) (t := 40) ?hr ?_; (case hd => rfl); (case hg => rfl); (case hr => first | (go_simp; done) | (go_simp; rfl)); intro gb120 hg w12 hbox hb; have n0_ := Aside0.mk (below_step (by repeat (first | (with_reducible first | exact HB.out | apply below_alloc | apply pw_below_drewN | apply below_drew1) | exact HB.out)) hb); have n1_ := Aside0.mk (hbox); have n2_ := Aside0.mk ((by rw [hg]; exact (below_size (by repeat (first | (with_reducible first | exact HB.out | apply below_alloc | apply pw_below_drewN | apply below_drew1) | exact HB.out))) : w.heap.size ≤ gb120)); have n3_ := Aside0.mk ((by rw [hg]; exact (below_size (by repeat (first | (with_reducible first | exact HB.out | apply below_alloc | apply pw_below_drewN | apply below_drew1) | exact HB.out))) : w.heap.size ≤ gb120)); clear HB; have HB := n0_; have BK120 := n1_; have GW120 := n2_; have GE120 := n3_; clear n0_ n1_ n2_ n3_; clear hb hbox hg))
  have n0_ := Aside0.mk (blk_drew BK120.out)
  have n1_ := Aside0.mk (below_drew1 HB.out)
  clear BK120
  clear HB
  have BK120 := n0_
  have HB := n1_
  clear n0_ n1_
  refine start_ (n := 8) (S := fun w' => w'.cell? ⟨gb120, 0, none⟩ = some (.string a0_0) ∧ w'.cell? ⟨gb120, 1, none⟩ = some (.slice A0_1 l0_1.length c0_1) ∧ w'.cell? ⟨gb120, 2, none⟩ = some (.slice A0_2 l0_2.length c0_2) ∧ w'.cell? ⟨gb120, 3, none⟩ = some (.slice A0_3 l0_3.length c0_3) ∧ w'.cell? ⟨gb120, 4, none⟩ = some (.int .i64 a0_4)) (ds := []) #[false, false, false, false, false, false, false, false] (by kernel_rfl) rfl rfl ⟨(blk_cell BK120.out 0).trans rfl, (blk_cell BK120.out 1).trans rfl, (blk_cell BK120.out 2).trans rfl, (blk_cell BK120.out 3).trans rfl, (blk_cell BK120.out 4).trans rfl⟩ (fun hHeld => ?_); refine with_tabW siphon_side.tab3 siphon_side.bits3 (fun HT_ HW_ => ?_)
  generalize w12.drew = w13 at BK120 HB hHeld ⊢
  refine pure_ (i := 0) (N := some 13) (v := ?_) (a' := ?_) #[true, false, false, false, false, false, false, false] rfl rfl (any_of HT_.out (by kernel_rfl)) (fun _ _ _ h => h) (Or.inl ⟨by rfl, ?_⟩) ?_ ?_
  rotate_left
  ·
   intro w'
   go_simp
   with_reducible rfl
  rotate_left
  ·
   simp only [Act.put, List.setIfInBounds_toArray, List.set_cons_zero, List.set_cons_succ, i64_w, i32_w]
   rfl
  refine pure_ (i := 3) (N := some 16) (v := ?_) (a' := ?_) #[true, false, false, true, false, false, false, false] rfl rfl (any_of HT_.out (by kernel_rfl)) (fun _ _ _ h => h) (Or.inl ⟨by rfl, ?_⟩) ?_ ?_
  rotate_left
  ·
   intro w'
   go_simp
   with_reducible rfl
  rotate_left
  ·
   simp only [Act.put, List.setIfInBounds_toArray, List.set_cons_zero, List.set_cons_succ, i64_w, i32_w]
   rfl
  refine take_ (i := 1) (N := some 14) (v := ?_) (a' := ?_) #[true, true, false, true, false, false, false, false] rfl rfl (take_ofW HT_.out HW_.out (by kernel_rfl)) (fun _ _ _ h => h) (Or.inl ⟨by rfl, ?_⟩) hHeld ?_ ?_
  rotate_left
  ·
   rintro w' ⟨s0, s1, s2, s3, s4⟩
   go_simp
   with_reducible rfl
  rotate_left
  ·
   simp only [Act.put, List.setIfInBounds_toArray, List.set_cons_zero, List.set_cons_succ, i64_w, i32_w]
   rfl
  refine take_ (i := 4) (N := some 17) (v := ?_) (a' := ?_) #[true, true, false, true, true, false, false, false] rfl rfl (take_ofW HT_.out HW_.out (by kernel_rfl)) (fun _ _ _ h => h) (Or.inl ⟨by rfl, ?_⟩) hHeld ?_ ?_
  rotate_left
  ·
   rintro w' ⟨s0, s1, s2, s3, s4⟩
   go_simp
   with_reducible rfl
  rotate_left
  ·
   simp only [Act.put, List.setIfInBounds_toArray, List.set_cons_zero, List.set_cons_succ, i64_w, i32_w]
   rfl
  refine one_ (i := 2) (N := some 15) #[true, true, true, true, true, false, false, false] rfl rfl (one_of HT_.out (by kernel_rfl)) (by decide) (fun K hK => ?_)
  refine goes_ Try.func74 (by kernel_rfl) rfl #[.slice A0_2 l0_2.length c0_2] (by rfl) rfl rfl (by (try simp only [List.map_toArray, List.map_cons, List.map_nil]); first | done | rfl | (simp only [List.length_drop, List.length_take]; rfl)) ?_
  with_reducible refine (siphon_places.calls k _ _ l0_2 t123 _ ?side1 ?side2 A10.out).mono ?_
  (case side1 => repeat (first | exact (Kd.C_below HR0_2.out HB.out) | (with_reducible refine Kd.C_alloc ?_ _) | (with_reducible refine Kd.C_drewN ?_ _) | (with_reducible refine Kd.C_drew ?_)))
  (case side2 => exact HC0_2.out)
  rintro e w14 ⟨rfl, hb⟩
  refine ⟨_, rfl, ?_⟩
  have n0_ := Aside0.mk (blk_below (g := gb120) (o := .cells #[.string a0_0, .slice A0_1 l0_1.length c0_1, .slice A0_2 l0_2.length c0_2, .slice A0_3 l0_3.length c0_3, .int .i64 a0_4] 40 (0, 0)) (by (with_reducible repeat (first | refine blk_drewN ?_ _ | refine blk_drew ?_ | refine blk_alloc ?_ _)); exact BK120.out) hb)
  have n1_ := Aside0.mk (below_step (by repeat (first | (with_reducible first | exact HB.out | apply below_alloc | apply pw_below_drewN | apply below_drew1 | refine below_set ?_ GE120.out) | exact HB.out)) hb)
  clear BK120
  clear HB
  have BK120 := n0_
  have HB := n1_
  clear n0_ n1_
  (try clear hb)
  (try clear hb2)
  (try clear hk)
  (try clear hi)
  refine hK.out _ _ ⟨(blk_cell BK120.out 0).trans rfl, (blk_cell BK120.out 1).trans rfl, (blk_cell BK120.out 2).trans rfl, (blk_cell BK120.out 3).trans rfl, (blk_cell BK120.out 4).trans rfl⟩ (fun hHeld => ?_)
  clear hK K
  refine norm_ (a' := ?_) ?_ ?_
  rotate_left
  ·
   show Act.put _ (some 15) _ = _
   simp only [Act.put, List.setIfInBounds_toArray, List.set_cons_zero, List.set_cons_succ, i64_w, i32_w]
   rfl
  refine one_ (i := 5) (N := some 18) #[true, true, true, true, true, true, false, false] rfl rfl (one_of HT_.out (by kernel_rfl)) (by decide) (fun K hK => ?_)
  refine goes_ Try.func74 (by kernel_rfl) rfl #[.slice A0_1 l0_1.length c0_1] (by rfl) rfl rfl (by (try simp only [List.map_toArray, List.map_cons, List.map_nil]); first | done | rfl | (simp only [List.length_drop, List.length_take]; rfl)) ?_
  with_reducible refine (siphon_places.calls k _ _ l0_1 t124 _ ?side1 ?side2 A11.out).mono ?_
  (case side1 => repeat (first | exact (Kd.C_below HR0_1.out HB.out) | (with_reducible refine Kd.C_alloc ?_ _) | (with_reducible refine Kd.C_drewN ?_ _) | (with_reducible refine Kd.C_drew ?_)))
  (case side2 => exact HC0_1.out)
  rintro e w15 ⟨rfl, hb⟩
  refine ⟨_, rfl, ?_⟩
  have n0_ := Aside0.mk (blk_below (g := gb120) (o := .cells #[.string a0_0, .slice A0_1 l0_1.length c0_1, .slice A0_2 l0_2.length c0_2, .slice A0_3 l0_3.length c0_3, .int .i64 a0_4] 40 (0, 0)) (by (with_reducible repeat (first | refine blk_drewN ?_ _ | refine blk_drew ?_ | refine blk_alloc ?_ _)); exact BK120.out) hb)
  have n1_ := Aside0.mk (below_step (by repeat (first | (with_reducible first | exact HB.out | apply below_alloc | apply pw_below_drewN | apply below_drew1 | refine below_set ?_ GE120.out) | exact HB.out)) hb)
  clear BK120
  clear HB
  have BK120 := n0_
  have HB := n1_
  clear n0_ n1_
  (try clear hb)
  (try clear hb2)
  (try clear hk)
  (try clear hi)
  refine hK.out _ _ ⟨(blk_cell BK120.out 0).trans rfl, (blk_cell BK120.out 1).trans rfl, (blk_cell BK120.out 2).trans rfl, (blk_cell BK120.out 3).trans rfl, (blk_cell BK120.out 4).trans rfl⟩ (fun hHeld => ?_)
  clear hK K
  refine norm_ (a' := ?_) ?_ ?_
  rotate_left
  ·
   show Act.put _ (some 18) _ = _
   simp only [Act.put, List.setIfInBounds_toArray, List.set_cons_zero, List.set_cons_succ, i64_w, i32_w]
   rfl
  refine pure_ (i := 6) (N := some 4) (v := ?_) (a' := ?_) #[true, true, true, true, true, true, true, false] rfl rfl (any_of HT_.out (by kernel_rfl)) (fun _ _ _ h => h) (Or.inl ⟨by rfl, ?_⟩) ?_ ?_
  rotate_left
  ·
   intro w'
   go_simp
   with_reducible rfl
  rotate_left
  ·
   simp only [Act.put, List.setIfInBounds_toArray, List.set_cons_zero, List.set_cons_succ, i64_w, i32_w]
   rfl
  refine pure_ (i := 7) (N := some 5) (v := ?_) (a' := ?_) #[true, true, true, true, true, true, true, true] rfl rfl (any_of HT_.out (by kernel_rfl)) (fun _ _ _ h => h) (Or.inl ⟨by rfl, ?_⟩) ?_ ?_
  rotate_left
  ·
   intro w'
   go_simp
   with_reducible rfl
  rotate_left
  ·
   simp only [Act.put, List.setIfInBounds_toArray, List.set_cons_zero, List.set_cons_succ, i64_w, i32_w]
   rfl
  refine done_ (done_of HT_.out (by kernel_rfl)) ?_
  try go_wp2
  go_ret2
  exact ⟨by first | rfl | (simp [errW_none, errW_some] <;> rfl) | (simp [*, errW_none, errW_some] <;> rfl), by repeat (first | (with_reducible first | exact HB.out | apply below_alloc | apply pw_below_drewN | apply below_drew1 | refine below_set ?_ GE120.out) | exact HB.out)⟩


end Go.Proofs.Ytaphehdbjbogaaa.Pr
