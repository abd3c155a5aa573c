/- The book's calls once more, with what they leave alone. -/
import Derived.Test.YtjefmcfkhalagaaLiveZScaledWrites
import Derived.Test.YtjefmcfkhalagaaRdrZScaledWrites
import Derived.Test.YtjefmcfkhalagaaBkbZScaledWrites
namespace Go.Proofs.Ytjefmcfkhalagaa.Keep
set_option linter.unusedVariables false
set_option linter.unusedSimpArgs false
open Go.RowKit Go.Proofs.Ytjefmcfkhalagaa.Q Go.Proofs.YtjefmcfkhalagaaW.PrintWords Go.Proofs.YtjefmcfkhalagaaW.PrintLast

/-- The types of a book's own blocks. -/
def BT : List TypeId := [59, 22, 73]
theorem Live.bytes_calls2 {w W : World} {ok : Nat → Prop} {b : Nat} {l : List Ent} (h : Live w W ok b l) (i : Nat) {A : Option Addr} {c : Nat} {xs : List Int} (hi : l[i]? = some ⟨5, .u8, .slice A xs.length c, xs, true⟩) (hsz : xs.length ≤ 10000000000000) :
    Calls Try.prog 25 #[.pointer (some ⟨b, 0, none⟩), .slice A xs.length c] W fun e w' => e = .returned (.tuple #[]) ∧ (∃ ok', Live w w' ok' b (l.set i ⟨5, .u8, .slice A xs.length c, xs, false⟩)) ∧ Typed BT W w' :=
  (Keep.bytes_calls h.bk A c xs (h.rows.own i _ hi) (h.free i _ hi rfl) hsz h.rows.bel.size).mono fun _ _ ⟨he, hc, hb⟩ => ⟨he, ⟨_, h.kept hi (.inl rfl) hc hb⟩, hc.mono fun k _ hk => by
    rcases hk.2 with hk | hk
    · exact ⟨_, by simp [BT], hk⟩
    · exact ⟨22, by simp [BT], hk⟩⟩
end Go.Proofs.Ytjefmcfkhalagaa.Keep
