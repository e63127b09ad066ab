/- 'gemellaw18.StoreNobody', for every input: it returns true, and what was handed in reads as it did. No condition but the row's own: the tables that the card ties to the program's text. -/
import Derived.Test.YtjlbbfdbfcokmaaGreatDoorCards
import Derived.Test.YtjlbbfdbfcokmaaGreatDoorTie
import Derived.Test.YtjlbbfdbfcokmaaGreatDoorWalk
import Derived.Deep.DeepHandedRow
namespace Go.Proofs.YtjlbbfdbfcokmaaGreatDoor.gm
open Go Go.Gm Go.ChangeShapes Go.WideShapes Go.ChangeAt Go.RowKit
set_option maxRecDepth 100000

theorem own : ownKnob Tryz.prog.godebug = none := by kernel_rfl

theorem start_get : ∀ (b : Nat) (o : AObj), start.get b = some o → (b = 0 ∧ o = .ro tv0) ∨ (b = 1 ∧ o = .ro tv1) ∨ (b = 2 ∧ o = .ro tv2)
  | 0, o, h => by have e : start.get 0 = some (.ro tv0) := rfl
                  rw [e] at h; cases h; exact .inl ⟨rfl, rfl⟩
  | 1, o, h => by have e : start.get 1 = some (.ro tv1) := rfl
                  rw [e] at h; cases h; exact .inr (.inl ⟨rfl, rfl⟩)
  | 2, o, h => by have e : start.get 2 = some (.ro tv2) := rfl
                  rw [e] at h; cases h; exact .inr (.inr ⟨rfl, rfl⟩)
  | 3, o, h => by have e : start.get 3 = none := rfl
                  rw [e] at h; cases h
  | 4, o, h => by have e : start.get 4 = none := rfl
                  rw [e] at h; cases h
  | 5, o, h => by have e : start.get 5 = none := rfl
                  rw [e] at h; cases h
  | 6, o, h => by have e : start.get 6 = none := rfl
                  rw [e] at h; cases h
  | 7, o, h => by have e : start.get 7 = none := rfl
                  rw [e] at h; cases h
  | n + 8, o, h => by
    have := AH.get_lt h
    have e : start.n = 8 := rfl
    omega

def mu (o1 o2 o3 : Option Addr) : Mp
  | 0 => some ⟨0, 0, tz0.length⟩
  | 1 => some ⟨1, 0, tz1.length⟩
  | 2 => some ⟨2, 0, tz2.length⟩
  | 3 => some ⟨3, 0, 0⟩
  | 4 => o1.map fun a => ⟨a.block, 0, 0⟩
  | 5 => o2.map fun a => ⟨a.block, 0, 0⟩
  | 6 => o3.map fun a => ⟨a.block, 0, 0⟩
  | _ => none

theorem glob_ok (o1 o2 o3 : Option Addr) : GlobOk glob (mu o1 o2 o3) := by
  intro g hg
  have h : g = 0 ∨ g = 1 ∨ g = 2 ∨ g = 3 := by
    unfold glob at hg
    simp only [Bool.or_eq_true] at hg
    rcases hg with ((hg | hg) | hg) | hg
    · exact .inl (Nat.eq_of_beq_eq_true hg)
    · exact .inr (.inl (Nat.eq_of_beq_eq_true hg))
    · exact .inr (.inr (.inl (Nat.eq_of_beq_eq_true hg)))
    · exact .inr (.inr (.inr (Nat.eq_of_beq_eq_true hg)))
  rcases h with rfl | rfl | rfl | rfl <;> exact ⟨_, rfl⟩

theorem refl_ok : ReflOk Tryz.prog glob refl where
  gs := by kernel_rfl
  glob := by kernel_rfl
  vo := ⟨⟨Tryz.f76, Tryz.func76, by kernel_rfl, by kernel_rfl, by kernel_rfl, by kernel_rfl⟩⟩
  ln := ⟨⟨Tryz.f78, Tryz.func78, by kernel_rfl, by kernel_rfl, by kernel_rfl, by kernel_rfl⟩⟩
  sw := ⟨⟨Tryz.f77, Tryz.func77, by kernel_rfl, by kernel_rfl, by kernel_rfl, by kernel_rfl⟩⟩
  lit1 := by kernel_rfl
  lit2 := by kernel_rfl
  ts := fun t ht => by
    obtain rfl : t = 23 := by simpa [refl] using ht
    exact ⟨Tryz.t23, 76, Tryz.t76, 25, by kernel_rfl, by kernel_rfl, by kernel_rfl, by kernel_rfl, fun w => by kernel_rfl⟩

/-- THE WALK, IN EVERY WORLD THAT HOLDS THE TABLES. -/
theorem walk (W : World) (h3 : 3 < W.heap.size) (v0 : W.var? Tryz.prog "internal/strconv.uint64pow10" = some (tz0.map fun z => Value.int .u64 z).toArray)
    (v1 : W.var? Tryz.prog "math/bits.deBruijn32tab" = some (tz1.map fun z => Value.int .u8 z).toArray) (v2 : W.var? Tryz.prog "math/bits.deBruijn64tab" = some (tz2.map fun z => Value.int .u8 z).toArray)
    (k n m : Int) (o1 o2 o3 : Option Addr) (l1 c1 l2 c2 l3 c3 : Nat) (s : ByteArray)
    (q1 : ∀ a, o1 = some a → a.spot = none ∧ a.block < W.heap.size) (q2 : ∀ a, o2 = some a → a.spot = none ∧ a.block < W.heap.size) (q3 : ∀ a, o3 = some a → a.spot = none ∧ a.block < W.heap.size) :
    Calls Tryz.prog 3 #[.agg #[.int .i64 k, .slice o1 l1 c1, .slice o2 l2 c2, .string s, .slice o3 l3 c3, .int .i64 n, .int .i64 m]] W fun e W' => e = .returned (.bool true) ∧ Below W.heap.size W W' := by
  obtain ⟨s0, r0⟩ := ro_of_var (okC := okCode glob) (μ := mu o1 o2 o3) (g := 0) (by kernel_rfl) v0
  obtain ⟨s1, r1⟩ := ro_of_var (okC := okCode glob) (μ := mu o1 o2 o3) (g := 1) (by kernel_rfl) v1
  obtain ⟨s2, r2⟩ := ro_of_var (okC := okCode glob) (μ := mu o1 o2 o3) (g := 2) (by kernel_rfl) v2
  have hro : ∀ b o, start.get b = some o → ownB o = false := fun b o h => by
    rcases start_get b o h with ⟨_, rfl⟩ | ⟨_, rfl⟩ | ⟨_, rfl⟩ <;> rfl
  have hmap : ∀ (o : Option Addr), (∀ a, o = some a → a.spot = none ∧ a.block < W.heap.size) → ∀ t, (o.map fun a => (⟨a.block, 0, 0⟩ : Spot)) = some t → t.r < W.heap.size := fun o q t h => by
    rw [Option.map_eq_some_iff] at h
    obtain ⟨a, ha, rfl⟩ := h
    exact (q a ha).2
  have hr : Rel (okCode glob) (mu o1 o2 o3) start W := by
    refine rel_start (fun b t hb => ?_) hro (fun b t o hb ho => ?_)
    · have e : start.n = 8 := rfl
      rw [e]
      match b, hb with
      | 0, hb => cases hb; exact ⟨by omega, s0⟩
      | 1, hb => cases hb; exact ⟨by omega, s1⟩
      | 2, hb => cases hb; exact ⟨by omega, s2⟩
      | 3, hb => cases hb; exact ⟨by omega, h3⟩
      | 4, hb => exact ⟨by omega, hmap o1 q1 t hb⟩
      | 5, hb => exact ⟨by omega, hmap o2 q2 t hb⟩
      | 6, hb => exact ⟨by omega, hmap o3 q3 t hb⟩
      | n + 7, hb => cases hb
    · rcases start_get b o ho with ⟨rfl, rfl⟩ | ⟨rfl, rfl⟩ | ⟨rfl, rfl⟩
      · cases hb; exact r0
      · cases hb; exact r1
      · cases hb; exact r2
  have hv : ∀ (b : Nat) (o : Option Addr), (∀ a, o = some a → a.spot = none ∧ a.block < W.heap.size) → mu o1 o2 o3 b = (o.map fun a => (⟨a.block, 0, 0⟩ : Spot)) → ∀ l c, VR (mu o1 o2 o3) (.slice (o.map fun a => ⟨b, a.off, none⟩) l c) (.slice o l c) :=
    fun b o q hb l c => vr_slice (n := 0) fun a ha => ⟨(q a ha).1, by rw [hb, ha]; rfl⟩
  have hfn : tab.fn 3 = some Tryz.f3 := by kernel_rfl
  have := calls_true tab_ok (reflOwn_ok tab_ok refl_ok) hfn (by kernel_rfl) (runs k n m (o1.map fun a => ⟨4, a.off, none⟩) (o2.map fun a => ⟨5, a.off, none⟩) (o3.map fun a => ⟨6, a.off, none⟩) l1 c1 l2 c2 l3 c3 s) hr hro (glob_ok o1 o2 o3)
    (args' := [.agg #[.int .i64 k, .slice o1 l1 c1, .slice o2 l2 c2, .string s, .slice o3 l3 c3, .int .i64 n, .int .i64 m]])
    (.cons (VR.of_agg (.cons (.int _ _) (.cons (hv 4 o1 q1 rfl l1 c1) (.cons (hv 5 o2 q2 rfl l2 c2) (.cons (.string _) (.cons (hv 6 o3 q3 rfl l3 c3) (.cons (.int _ _) (.cons (.int _ _) .nil)))))))) .nil)
  exact this
end Go.Proofs.YtjlbbfdbfcokmaaGreatDoor.gm
