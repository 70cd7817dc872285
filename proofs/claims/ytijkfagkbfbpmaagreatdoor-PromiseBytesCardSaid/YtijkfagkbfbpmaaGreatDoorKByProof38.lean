import Derived.Test.YtijkfagkbfbpmaaGreatDoorKByProof31
import Derived.Test.YtijkfagkbfbpmaaGreatDoorS0
set_option linter.unusedVariables false
set_option linter.unusedSimpArgs false
namespace Go.Proofs.YtijkfagkbfbpmaaGreatDoor
open Go Go.RowKit
/-- a string's bytes -/
def btl (s : ByteArray) : List Nat := s.data.toList.map UInt8.toNat
theorem txB_btl (s : ByteArray) : txB (btl s) = s := by
 apply ByteArray.ext
 apply Array.toList_inj.1
 unfold txB btl; rw [List.map_map]; have e : (UInt8.ofNat ∘ UInt8.toNat) = id := by funext b; simp
 rw [e, List.map_id]
theorem btl_len (s : ByteArray) : (btl s).length = s.size := by unfold btl; rw [List.length_map, Array.length_toList]; rfl
theorem btl_lt (s : ByteArray) : ∀ x ∈ btl s, x < 256 := by
 intro x hx; obtain ⟨b, _, rfl⟩ := List.mem_map.1 hx; exact b.toNat_lt
theorem encI_inj {n m : Int} (h1 : -9223372036854775808 ≤ n ∧ n ≤ 9223372036854775807) (h2 : -9223372036854775808 ≤ m ∧ m ≤ 9223372036854775807) {r s : List Nat} (h : Wi.encI n ++ r = Wi.encI m ++ s) : n = m ∧ r = s := by
 have e1 := Wi.getI_enc h1.1 h1.2 r; have e2 := Wi.getI_enc h2.1 h2.2 s; rw [h, e2] at e1; have hn : m = n := congrArg (fun x => x.1) e1; subst hn; exact ⟨rfl, List.append_cancel_left h⟩
theorem encB_inj {a b r s : List Nat} (ha : a.length ≤ 67108864) (hb : b.length ≤ 67108864) (h : encB a ++ r = encB b ++ s) : a = b ∧ r = s := by
 unfold encB at h; rw [List.append_assoc, List.append_assoc] at h; obtain ⟨e1, e2⟩ := encI_inj (by omega) (by omega) h; have e3 : a.length = b.length := by omega
 exact List.append_inj e2 e3
theorem encI_list_inj : ∀ (X Y : List Int) {r s : List Nat}, X.length = Y.length → (∀ x ∈ X, -9223372036854775808 ≤ x ∧ x ≤ 9223372036854775807) → (∀ x ∈ Y, -9223372036854775808 ≤ x ∧ x ≤ 9223372036854775807) → X.flatMap Wi.encI ++ r = Y.flatMap Wi.encI ++ s → X = Y ∧ r = s
 | [], [], _, _, _, _, _, h => ⟨rfl, by simpa using h⟩
 | x :: X, y :: Y, r, s, hl, hx, hy, h => by
  rw [List.flatMap_cons, List.flatMap_cons, List.append_assoc, List.append_assoc] at h; obtain ⟨e1, e2⟩ := encI_inj (hx x (by simp)) (hy y (by simp)) h; obtain ⟨e3, e4⟩ := encI_list_inj X Y (by simpa using hl) (fun z hz => hx z (by simp [hz])) (fun z hz => hy z (by simp [hz])) e2; exact ⟨by rw [e1, e3], e4⟩
theorem encIs_inj {X Y : List Int} {r s : List Nat} (lX : X.length ≤ 67108864) (lY : Y.length ≤ 67108864) (hx : ∀ x ∈ X, -9223372036854775808 ≤ x ∧ x ≤ 9223372036854775807) (hy : ∀ x ∈ Y, -9223372036854775808 ≤ x ∧ x ≤ 9223372036854775807) (h : Wi.encIs X ++ r = Wi.encIs Y ++ s) : X = Y ∧ r = s := by
 unfold Wi.encIs at h; rw [List.append_assoc, List.append_assoc] at h; obtain ⟨e1, e2⟩ := encI_inj (by omega) (by omega) h; exact encI_list_inj X Y (by omega) hx hy e2
theorem encSs_inj2 {a b c d r s : List Nat} (ha : a.length ≤ 67108864) (hb : b.length ≤ 67108864) (hc : c.length ≤ 67108864) (hd : d.length ≤ 67108864) (h : encSs [a, b] ++ r = encSs [c, d] ++ s) : a = c ∧ b = d ∧ r = s := by
 unfold encSs at h; simp only [List.flatMap_cons, List.flatMap_nil, List.append_nil, List.append_assoc] at h; obtain ⟨_, e2⟩ := encI_inj (by simp) (by simp) h; obtain ⟨e3, e4⟩ := encB_inj ha hc e2; obtain ⟨e5, e6⟩ := encB_inj hb hd e4; exact ⟨e3, e5, e6⟩
end Go.Proofs.YtijkfagkbfbpmaaGreatDoor
