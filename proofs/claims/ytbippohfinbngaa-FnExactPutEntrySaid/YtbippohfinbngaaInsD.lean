/- An entry set into a row of one's own: slices.Insert. No condition. -/
import Derived.Test.YtbippohfinbngaaInsC
namespace Go.Proofs.Ytbippohfinbngaa
open Go.RowKit
set_option linter.unusedVariables false
set_option linter.unusedSimpArgs false

def insR (xs : List En) (k : Nat) (e : En) : List En := xs.take k ++ [e] ++ xs.drop k
theorem insR_length {xs : List En} {k : Nat} (e : En) (hk : k ≤ xs.length) : (insR xs k e).length = xs.length + 1 := by
  simp only [insR, List.length_append, List.length_take, List.length_drop, List.length_cons, List.length_nil]
  omega
theorem insR_ok {xs : List En} {k : Nat} {e : En} (he : tEnt.ok e) (h : ∀ x ∈ xs, tEnt.ok x) : ∀ x ∈ insR xs k e, tEnt.ok x := by
  intro x hx
  simp only [insR, List.mem_append, List.mem_singleton] at hx
  rcases hx with (hx | rfl) | hx
  · exact h x (List.mem_of_mem_take hx)
  · exact he
  · exact h x (List.mem_of_mem_drop hx)
theorem rd_box {w : World} {p t : Nat} {e : En} (h : Blk w p t #[.string e.1, .string e.2]) : Rd w (fun _ => True) 2 (some ⟨p, 0, none⟩) [e].length ([e].flatMap tEnt.enc) :=
  ⟨rfl, fun _ => ⟨p, 0, rfl, trivial, fun j u hu => by
    rw [Nat.zero_add, h.cell]
    simpa [tEnt] using hu⟩⟩
theorem cells_box {w : World} {p t : Nat} {e : En} (h : Blk w p t #[.string e.1, .string e.2]) : ∀ j u, ([e].flatMap tEnt.enc)[j]? = some u → w.cell? ((⟨p, 0, none⟩ : Addr).add j) = some u := fun j u hu => by
  rw [Addr.add_lit, Nat.zero_add, h.cell]
  simpa [tEnt] using hu

end Go.Proofs.Ytbippohfinbngaa
