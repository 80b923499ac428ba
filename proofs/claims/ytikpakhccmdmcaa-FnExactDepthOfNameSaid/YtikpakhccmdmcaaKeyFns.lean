/- Functions that are one key of bytes. No condition. -/
import Derived.Test.YtikpakhccmdmcaaKeys
import Derived.Test.YtikpakhccmdmcaaHashR
import Derived.Test.YtikpakhccmdmcaaHashH
namespace Go.Proofs.Ytikpakhccmdmcaa
open Go.RowKit
set_option linter.unusedVariables false
set_option linter.unusedSimpArgs false

theorem rd_none (w : World) (S : Nat → Prop) : RdL tByte w S (.slice none 0 0) [] := ⟨none, 0, rfl, Nat.le_refl _, by simp, Rd.nil _ _ _ _, by simp⟩
theorem Own.empty' {α : Type} (T : Ty α) {g : Nat} {w : World} (hg : g = w.heap.size) (e base : Nat) (hb : base ≤ w.heap.size) : Own T e (w.alloc (.cells #[] e)) base (.slice (some ⟨g, 0, none⟩) 0 0) ([] : List α) := by
  subst hg
  exact Own.empty T w e base hb
/-- the key of the empty map -/
def emptyL : List Int := hashL 5 []
theorem emptyL_ok : K32 emptyL := hashL_ok _ _
set_option maxHeartbeats 1000000 in
set_option maxRecDepth 100000 in
theorem l04Empty_any (w : World) : Calls Try.prog 89 #[] w fun e w' => e = .returned (.agg (numsA .u8 emptyL)) ∧ Ext w w' := by
  have hk := emptyL_ok.1
  go_enter Try.func89, Try.ntmps89
  go_wp2_with fail
  refine (l01Hash_any 5 (by decide) _ [] _ _ (Own.empty' tByte (by simp) 5 0 (Nat.zero_le _)).rd (by simp)).mono ?_
  rintro e w1 ⟨rfl, hx⟩
  have HB := Lib.hid (((Blk.new w 45 _).alloc _).ext hx)
  have HX := Lib.hid (((ext_alloc w _).alloc _).trans hx)
  clear hx
  go_wp2_with (refine wpl_storeN HB.out aggKey hk rfl rfl _ _ rfl rfl rfl rfl ?_)
  refine bodyPost_ret (results_blk rfl _ rfl aggKey hk (HB.out.setRow _)) rfl ?_
  exact ⟨rfl, HX.out.setRow (Nat.le_refl _) _⟩

/-- functions whose whole result is one key -/
theorem ret_key {fn : Func} {c : Tmp} {t g : Nat} {xs : List Int} {w : World} {cur : Array Value} {P : Program} (hr : fn.results = #[.cell c t]) (tmps : Array Value) (hp : tmps.getD c undef = .pointer (some ⟨g, 0, none⟩)) (ht : Agg P t 32) (hn : xs.length = 32) (hb : Blk w g t cur) :
    (results fn tmps).run P (w.setRow g (numsA .u8 xs)) = .ok (.agg (numsA .u8 xs)) (w.setRow g (numsA .u8 xs)) := results_blk hr tmps hp ht hn (hb.setRow _)
set_option maxHeartbeats 1000000 in
set_option maxRecDepth 100000 in
theorem implEmptyMapKey_any (w : World) : Calls Try.prog 65 #[] w fun e w' => e = .returned (.agg (numsA .u8 emptyL)) ∧ Ext w w' := by
  have hk := emptyL_ok.1
  go_enter Try.func65, Try.ntmps65
  go_wp2_with fail
  refine (hash_any 5 (by decide) _ [] _ _ (rd_none _ (fun _ => True)) (by simp)).mono ?_
  rintro e w1 ⟨rfl, hx⟩
  have HB := Lib.hid ((Blk.new w 45 _).ext hx)
  have HX := Lib.hid ((ext_alloc w _).trans hx)
  clear hx
  go_wp2_with (refine wpl_storeN HB.out aggKey hk rfl rfl _ _ rfl rfl rfl rfl ?_)
  refine bodyPost_ret (results_blk rfl _ rfl aggKey hk (HB.out.setRow _)) rfl ?_
  exact ⟨rfl, HX.out.setRow (Nat.le_refl _) _⟩

end Go.Proofs.Ytikpakhccmdmcaa
