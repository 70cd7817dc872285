import Init
namespace Go.Proofs.YtijkfagkbfbpmaaGreatDoor
theorem sA {α : Type _} (l : List α) (i : Nat) (a : α) : l.toArray.setIfInBounds i a = (l.set i a).toArray := List.setIfInBounds_toArray l i a
theorem sB {α : Type _} {a b : α} {as : List α} : (a :: as).set 0 b = b :: as := rfl
theorem sC {α : Type _} {a b : α} {as : List α} {n : Nat} : (a :: as).set (n + 1) b = a :: as.set n b := rfl
end Go.Proofs.YtijkfagkbfbpmaaGreatDoor
