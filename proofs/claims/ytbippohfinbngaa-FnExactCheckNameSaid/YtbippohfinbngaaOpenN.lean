/- A list of nodes as an argument. No condition. -/
import Derived.Test.YtbippohfinbngaaOpen
import Derived.Test.YtbippohfinbngaaTreeP
namespace Go.Proofs.Ytbippohfinbngaa
open Go.RowKit
def toNd (x : List Int × List Int × En) : Nd := ⟨x.1, x.2.1, x.2.2.1, x.2.2.2⟩
def tNdT : Ty (List Int × List Int × En) := ⟨66, fun x => (toNd x).enc, fun x => (toNd x).ok, fun _ h => Nd.enc_length h, fun x => Nd.enc_one (toNd x)⟩
theorem c_nd : ∀ {w : World} {S : Nat → Prop} (es : List Value) (x : List Int × List Int × En), cPair (cArr8 32) (cPair (cArr8 32) (cPair cStr cStr)) w S es x → es = tNdT.enc x ∧ tNdT.ok x := by
  rintro w S es x ⟨c1, c2, rfl, ⟨rfl, hl, hlb⟩, c3, c4, rfl, ⟨rfl, hr, hrb⟩, c5, c6, rfl, ⟨rfl, hn⟩, rfl, hs⟩
  exact ⟨by simp [tNdT, toNd, Nd.enc], ⟨⟨hl, hlb⟩, ⟨hr, hrb⟩, hn, hs⟩⟩
theorem rdl_nd {w : World} {S : Nat → Prop} {v : Value} {xs : List (List Int × List Int × En)} (h : RdL tNdT w S v xs) : RdL tNd w S v (xs.map toNd) := by
  obtain ⟨A, cap, e, h1, h2, h3, h4⟩ := h
  have e2 : (xs.map toNd).flatMap tNd.enc = xs.flatMap tNdT.enc := by rw [List.flatMap_map]; rfl
  refine ⟨A, cap, by rw [List.length_map]; exact e, by rw [List.length_map]; exact h1, by rw [List.length_map]; exact h2, by rw [List.length_map, e2]; exact h3, ?_⟩
  intro x hx
  obtain ⟨y, hy, rfl⟩ := List.mem_map.1 hx
  exact h4 y hy
end Go.Proofs.Ytbippohfinbngaa
