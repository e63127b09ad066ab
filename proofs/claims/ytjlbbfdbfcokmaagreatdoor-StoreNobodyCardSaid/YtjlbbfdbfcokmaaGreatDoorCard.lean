/- THE CARD OF 'gemellaw18.StoreNobody': for every input it returns true, and what was handed in reads as it did; the three tables that the row lists are tied to the program's text. No further condition. -/
import Derived.Test.YtjlbbfdbfcokmaaGreatDoorNobody
namespace Go.Proofs.YtjlbbfdbfcokmaaGreatDoor.gm
open Go Go.Gm Go.ChangeShapes Go.WideShapes Go.ChangeAt Go.RowKit
set_option maxRecDepth 100000

theorem room3 {W : World} (h : W.ShapedOpen Tryz.prog) : 3 < W.heap.size := by
  obtain ⟨o, _, ho, _⟩ := h.2 3 (of_decide_eq_true (by kernel_rfl)) (of_decide_eq_true (by kernel_rfl))
  exact (Array.getElem?_eq_some_iff.1 ho).1

/-- WHAT THE WALK GIVES, FOR EVERY ARGUMENT AND EVERY WORLD THAT HOLDS THE TABLES. -/
theorem contract (H : Type) (enc : TypeId × Value → H) (W : World) (base : Nat) (args : Array Value) (ds gs : List (DataW H)) (before : List MemPlace)
    (hval : ∀ (j : Nat) t v, Tryz.f3.params[j]? = some t → args[j]? = some v → Value.okWide Tryz.prog W .any base t v)
    (hW : DataW.Whole enc Tryz.prog Tryz.f3.params.toList Rows.storeNobodySpec.vars false W args.toList ds gs before) (hL : laidMet Tryz.prog Rows.storeNobodyRow.laid W) (hS : W.ShapedOpen Tryz.prog) :
    Calls Tryz.prog 3 args W fun e W' => ∃ v, e = .returned v ∧ Rows.storeNobodySpec.post enc Tryz.prog Tryz.f3 false true false false W args v W' := by
  have hW' := hW
  obtain ⟨p, q, hA0, hV, rfl, hfz, hnd⟩ := hW
  have hA : DataW.TrodAll enc Tryz.prog W 0 (fun _ => true) true Tryz.f3.params.toList args.toList ds p := hA0
  rw [Tryz.params3] at hA hval
  obtain ⟨v0, vs0, d0, ds0, p0, q0, hargs, rfl, rfl, h0, r0⟩ := trodAll_cons hA
  obtain ⟨rfl, rfl, rfl⟩ := trodAll_nil r0
  obtain rfl : args = #[v0] := by cases args; simp_all
  obtain ⟨cs, rfl, hlen, hc⟩ := cells_of (ts := [3, 22, 23, 9, 26, 3, 3]) Tryz.underlying28 (by kernel_rfl) (by kernel_rfl) (hval 0 28 v0 rfl rfl)
  obtain ⟨ps, hL1, _⟩ := hL
  have e0 : (Lib.tabData .u64 tz0 : DataW Unit) = Rows.laid_internal_strconv_uint64pow10 := by kernel_rfl
  have e1 : (Lib.tabData .u8 tz1 : DataW Unit) = Rows.laid_math_bits_deBruijn32tab := by kernel_rfl
  have e2 : (Lib.tabData .u8 tz2 : DataW Unit) = Rows.laid_math_bits_deBruijn64tab := by kernel_rfl
  have t0 := tab_of_laid (name := "internal/strconv.uint64pow10") (k := .u64) (zs := tz0) (g := 0) (t := 276) (by kernel_rfl) (by kernel_rfl) Tryz.underlying276 Tryz.underlying193 (by kernel_rfl) (by kernel_rfl) _ _ hL1
    (by rw [e0]; exact List.Mem.tail _ (List.Mem.tail _ (List.Mem.head _)))
  have t1 := tab_of_laid (name := "math/bits.deBruijn32tab") (k := .u8) (zs := tz1) (g := 1) (t := 283) (by kernel_rfl) (by kernel_rfl) Tryz.underlying283 Tryz.underlying5 (by kernel_rfl) (by kernel_rfl) _ _ hL1
    (by rw [e1]; exact List.Mem.head _)
  have t2 := tab_of_laid (name := "math/bits.deBruijn64tab") (k := .u8) (zs := tz2) (g := 2) (t := 284) (by kernel_rfl) (by kernel_rfl) Tryz.underlying284 Tryz.underlying5 (by kernel_rfl) (by kernel_rfl) _ _ hL1
    (by rw [e2]; exact List.Mem.tail _ (List.Mem.head _))
  match cs, hlen, hc with
  | [x0, x1, x2, x3, x4, x5, x6], _, hc =>
    obtain ⟨u0, f0, g0⟩ := hc 0 x0 rfl
    obtain ⟨u1, f1, g1⟩ := hc 1 x1 rfl
    obtain ⟨u2, f2, g2⟩ := hc 2 x2 rfl
    obtain ⟨u3, f3, g3⟩ := hc 3 x3 rfl
    obtain ⟨u4, f4, g4⟩ := hc 4 x4 rfl
    obtain ⟨u5, f5, g5⟩ := hc 5 x5 rfl
    obtain ⟨u6, f6, g6⟩ := hc 6 x6 rfl
    cases f0; cases f1; cases f2; cases f3; cases f4; cases f5; cases f6
    obtain ⟨k, rfl, _⟩ := cell_int Tryz.underlying3 g0
    obtain ⟨o1, l1, c1, rfl, q1⟩ := cell_slice Tryz.underlying22 g1
    obtain ⟨o2, l2, c2, rfl, q2⟩ := cell_slice Tryz.underlying23 g2
    obtain ⟨s, rfl, _⟩ := cell_string Tryz.underlying9 g3
    obtain ⟨o3, l3, c3, rfl, q3⟩ := cell_slice Tryz.underlying26 g4
    obtain ⟨n, rfl, _⟩ := cell_int Tryz.underlying3 g5
    obtain ⟨m, rfl, _⟩ := cell_int Tryz.underlying3 g6
    refine (walk W (room3 hS) t0 t1 t2 k n m o1 o2 o3 l1 c1 l2 c2 l3 c3 s q1 q2 q3).mono fun e W' ⟨he, hb⟩ => ?_
    subst he
    exact ⟨_, rfl, post_true (t := 4) (by kernel_rfl) (by kernel_rfl) (by kernel_rfl) Tryz.underlying4 rfl (fun gs hgs => by subst hgs; exact ⟨rfl, rfl, rfl⟩) hW' hb⟩

/-- A WORLD FOR THE WITNESS: the settled one, the tables holding what their initialisers lay. -/
noncomputable def laidWorld (os : Os) : World :=
  let w := World.holding Tryz.prog os ⟨#[], #[], []⟩
  let put (h : Array Obj) (g : Nat) (vs : List Value) : Array Obj := h.modify g fun
    | .cells _ t frozen => .cells ⟨vs⟩ t frozen
    | o => o
  { w with heap := put (put (put w.heap 0 tv0) 1 tv1) 2 tv2 }
def witArg : Value := .agg #[.int .i64 0, .slice none 0 0, .slice none 0 0, .string ⟨#[]⟩, .slice none 0 0, .int .i64 0, .int .i64 0]
theorem laid_met (os : Os) : laidMet Tryz.prog Rows.storeNobodyRow.laid ((laidWorld os).forCall (fun _ _ => 0) ⟨#[], #[witArg], []⟩).memory :=
  laidMet_of_run' 8 (by kernel_rfl) (by kernel_rfl)
theorem reads (os : Os) {H : Type} (enc : TypeId × Value → H) : ∃ d places, DataW.whole enc Tryz.prog ((laidWorld os).forCall (fun _ _ => 0) ⟨#[], #[witArg], []⟩).memory Tryz.f3.params.toList Rows.storeNobodySpec.vars false #[witArg].toList 8 = some ([d], [], places) :=
  ⟨.agg [.lit (.int .i64 0), .agg [.nil, .nil], .lit (.string []), .nil, .lit (.int .i64 0), .lit (.int .i64 0)], [], by kernel_rfl⟩

theorem lifted (os : Os) (started : os.Started) (H : Type) (enc : TypeId × Value → H) (F : Stop.Interp) :
    ReturnsInHanded {} Tryz.checked os 3 .any ((OpenSpec.ofChange Rows.storeNobodySpec).preRow enc Tryz.prog Tryz.f3 Rows.storeNobodyRow.domain false Rows.storeNobodyRow.laid) (((OpenSpec.ofChange Rows.storeNobodySpec).at F).post enc Tryz.prog Tryz.f3 false true false false) := by
  obtain ⟨d, places, hx⟩ := reads os enc
  refine returnsInHanded_of_row (C := Tryz.checked) (s := OpenSpec.ofChange Rows.storeNobodySpec) own started (by kernel_rfl) Tryz.func3
    (witness_row_at (enc := enc) (C := Tryz.checked) false (laidWorld os) #[witArg] rfl (by kernel_rfl) (by kernel_rfl) (by kernel_rfl)
      (OpenSpec.preRow_of_cond 8 hx (by kernel_rfl) (fun k hk => by cases hk) (by kernel_rfl) (laid_met os))) ?_
  intro W base args ds gs before hval hW _ _ _ hL hS _
  exact contract H enc W base args ds gs before hval hW hL hS

theorem said : Rows.StoreNobodySaid :=
  OpenClaim.holds_of_cond 3 Tryz.f3 rfl rfl rfl rfl rfl rfl rfl ⟨rfl, rfl, rfl, rfl, rfl⟩ rfl rfl rfl rfl rfl (by kernel_rfl) Tryz.func3 (by kernel_rfl)
    (of_decide_eq_true (by kernel_rfl)) (by unfold Func.isWrapper; first | (rw [if_pos (by decide +kernel)]; kernel_rfl) | (rw [if_neg (by decide +kernel)]; exact ⟨rfl, rfl⟩))
    (fun os started H enc _ F => by rw [OpenClaim.pre_eq_preRow]; exact lifted os started H enc F)

theorem plain (f : FuncId) (fn : Func) (hf : Tryz.pinned.checked.prog.funcNamed "gemel/gemellaw18.StoreNobody" = some f) (hfn : Tryz.pinned.checked.prog.funcs[f]? = some fn) :
    true = Tryz.pinned.checked.prog.looks [] ∧ ∀ (j : Nat) t, fn.params[j]? = some t → Tryz.pinned.checked.prog.wantsStandIn t = false := by
  obtain rfl : f = 3 := Option.some.inj ((show Tryz.prog.funcNamed "gemel/gemellaw18.StoreNobody" = some 3 by kernel_rfl).symm.trans hf) |>.symm
  obtain rfl : fn = Tryz.f3 := (Option.some.inj (Tryz.func3.symm.trans hfn)).symm
  refine ⟨by kernel_rfl, fun j t ht => ?_⟩
  rw [Tryz.params3] at ht
  obtain rfl : t = 28 := by simpa using Array.mem_of_getElem? ht
  exact (show Tryz.prog.wantsStandIn 28 = false by kernel_rfl)
end Go.Proofs.YtjlbbfdbfcokmaaGreatDoor.gm

namespace Go.Proofs.YtjlbbfdbfcokmaaGreatDoor
open Go Go.Gm
/-- THE CARD. -/
theorem storeNobody_card : Rows.StoreNobodyCardSaid :=
  Claim7.holds_tied_plain_at .later [] _ _ _ _ gm.said (fun _ h => by cases h) (by kernel_rfl) (fun _ h => by cases h) storeNobody_row_tie rfl ⟨rfl, rfl⟩ (by kernel_rfl) rfl gm.plain (by kernel_rfl)
end Go.Proofs.YtjlbbfdbfcokmaaGreatDoor
