import Derived.Test.YticobffjnjbjiaaJ15
import Derived.Test.YticobffjnjbjiaaKGbProof17
import Derived.Test.YticobffjnjbjiaaS0
set_option linter.unusedVariables false
set_option linter.unusedSimpArgs false
namespace Go.Proofs.Yticobffjnjbjiaa
open Go.RowKit
/-- the numbers that two rows of limbs stand for -/
def bdL (x : List Nat × List Nat) : Nat × Nat := (Nm.nv x.1, if Nm.nv x.2 = 0 then 1 else Nm.nv x.2)
theorem bdL_good {l1 l2 : List Nat} {p q : Nat} (h : GoodL l1 l2 p q) : bdL (l1, l2) = (p, q) := by
 obtain ⟨rfl, rfl, hg⟩ := h; have hq := hg.pos; unfold bdL; simp only [Nm.nv_lb]; unfold Nm.dn; by_cases h1 : q = 1
 ·rw [if_pos h1, if_pos rfl, h1]
 ·rw [if_neg h1, if_neg (by omega)]
open Classical in
/-- what Build says of a test behind its tries, and the error, if bounds need not be valid -/
noncomputable def testC (L : List Nat) (ps : List PC) (Lf : Nat → List Nat × List Nat) (a b : Nat) (name : ByteArray) : List RC0 → Nat → Nat → Int × Int
 | [], _, _ => (1, 0)
 | r :: rs, p, q =>
  if r.oc = 0 then (0, 0) else if ofN L ps name r < 0 then (2, 0) else
   if Nm.validE (Lf (ofN L ps name r).toNat).1 (Lf (ofN L ps name r).toNat).2 ≠ 0 then (0, Nm.validE (Lf (ofN L ps name r).toNat).1 (Lf (ofN L ps name r).toNat).2) else
    let x := bdL (Lf (ofN L ps name r).toNat)
    let n := p * x.1
    let d := q * x.2
    if Nm.Fits (n / Nat.gcd n d) (d / Nat.gcd n d) then
     if n / Nat.gcd n d * b ≤ a * (d / Nat.gcd n d) then (2, 0) else testC L ps Lf a b name rs (n / Nat.gcd n d) (d / Nat.gcd n d)
    else (0, 4)
noncomputable def oneC (L : List Nat) (ps : List PC) (Lf : Nat → List Nat × List Nat) (a b : Nat) (x : ByteArray × List RC0) : Int × Int := testC L ps Lf a b x.1 x.2 1 1
theorem testC_go {L : List Nat} {ps : List PC} {Lf : Nat → List Nat × List Nat} {a b n p q pb qb : Nat} {name : ByteArray} {r : RC0} {rs : List RC0} {L3 L4 : List Nat} (h1 : r.oc ≠ 0) (h2 : (n : Int) = ofN L ps name r) (h3 : Lf n = (L3, L4)) (hv : Nm.validE L3 L4 = 0) (hg : GoodL L3 L4 pb qb) :
  (Nm.Fits (p * pb / Nat.gcd (p * pb) (q * qb)) (q * qb / Nat.gcd (p * pb) (q * qb)) → p * pb / Nat.gcd (p * pb) (q * qb) * b ≤ a * (q * qb / Nat.gcd (p * pb) (q * qb)) → testC L ps Lf a b name (r :: rs) p q = (2, 0)) ∧
  (Nm.Fits (p * pb / Nat.gcd (p * pb) (q * qb)) (q * qb / Nat.gcd (p * pb) (q * qb)) → ¬ p * pb / Nat.gcd (p * pb) (q * qb) * b ≤ a * (q * qb / Nat.gcd (p * pb) (q * qb)) → testC L ps Lf a b name (r :: rs) p q = testC L ps Lf a b name rs (p * pb / Nat.gcd (p * pb) (q * qb)) (q * qb / Nat.gcd (p * pb) (q * qb))) ∧
  (¬ Nm.Fits (p * pb / Nat.gcd (p * pb) (q * qb)) (q * qb / Nat.gcd (p * pb) (q * qb)) → testC L ps Lf a b name (r :: rs) p q = (0, 4)) := by
 have e : (ofN L ps name r).toNat = n := by rw [← h2]; rfl
 have hneg : ¬ ofN L ps name r < 0 := by rw [← h2]; omega
 have hb := bdL_good hg; refine ⟨fun f c => ?_, fun f c => ?_, fun f => ?_⟩ <;> (rw [testC, if_neg h1, if_neg hneg, e, h3, if_neg (by simp [hv]), hb]; dsimp only)
 ·rw [if_pos f, if_pos c]
 ·rw [if_pos f, if_neg c]
 ·rw [if_neg f]
theorem testC_bad {L : List Nat} {ps : List PC} {Lf : Nat → List Nat × List Nat} {a b n p q : Nat} {name : ByteArray} {r : RC0} {rs : List RC0} {L3 L4 : List Nat} (h1 : r.oc ≠ 0) (h2 : (n : Int) = ofN L ps name r) (h3 : Lf n = (L3, L4)) (hv : Nm.validE L3 L4 ≠ 0) : testC L ps Lf a b name (r :: rs) p q = (0, Nm.validE L3 L4) := by
 have e : (ofN L ps name r).toNat = n := by rw [← h2]; rfl
 have hneg : ¬ ofN L ps name r < 0 := by rw [← h2]; omega
 rw [testC, if_neg h1, if_neg hneg, e, h3, if_pos hv]
/-- the first error of a list -/
noncomputable def fbad {α : Type} (f : α → Int × Int) (xs : List α) : Int :=
 match xs.find? (fun x => (f x).2 != 0) with
 | some x => (f x).2
 | none => 0
theorem fbad_at {α : Type} {f : α → Int × Int} : ∀ {xs : List α} {i : Nat} {x : α}, xs[i]? = some x → (∀ m y, m < i → xs[m]? = some y → (f y).2 = 0) → (f x).2 ≠ 0 → fbad f xs = (f x).2
 | [], i, x, h, _, _ => by simp at h
 | y :: xs, 0, x, h, _, hx => by
  obtain rfl : y = x := by simpa using h
  unfold fbad; rw [List.find?_cons_of_pos (by simpa using hx)]
 | y :: xs, i + 1, x, h, hz, hx => by
  have h0 := hz 0 y (by omega) rfl; unfold fbad; rw [List.find?_cons_of_neg (by simp [h0])]; exact fbad_at (xs := xs) (i := i) (by simpa using h) (fun m y hm hy => hz (m + 1) y (by omega) (by simpa using hy)) hx
theorem fbad_none {α : Type} {f : α → Int × Int} {xs : List α} (h : ∀ x ∈ xs, (f x).2 = 0) : fbad f xs = 0 := by
 unfold fbad; rw [List.find?_eq_none.2 (fun x hx => by simp [h x hx])]
/-- Build's result, if bounds need not be valid -/
def BuildQ (kl ks kt : Nat) (l : List Int) (ps : List PC) (Lf : Nat → List Nat × List Nat) (names : List ByteArray) (rows : List SLR) (L1 L2 : List Nat) (er : Int) (codes : List Int) : Prop :=
 (fitE kl l kt ks (allR rows) ≠ 0 ∧ er = fitE kl l kt ks (allR rows) ∧ codes = []) ∨ (fitE kl l kt ks (allR rows) = 0 ∧ Nm.validE L1 L2 ≠ 0 ∧ er = Nm.validE L1 L2 ∧ codes = []) ∨
 (fitE kl l kt ks (allR rows) = 0 ∧ ∃ a b, L1 = Nm.lb a ∧ L2 = Nm.lb (Nm.dn b) ∧ Nm.Good a b ∧ er = fbad (fun x => oneC (l.map Int.toNat) ps Lf a b x) (names.zip (rows.map (·.rs))) ∧ codes = if er = 0 then (names.zip (rows.map (·.rs))).map (fun x => (oneC (l.map Int.toNat) ps Lf a b x).1) else [])
end Go.Proofs.Yticobffjnjbjiaa
namespace Go.Proofs.Yticobffjnjbjiaa
open Go.RowKit
/-- what holds all along while the doubt is multiplied by what is no ratio -/
structure SW (D : Nat) (o1 o2 : Value) (p q : Nat) (v2 : Value) (L3 L4 : List Nat) (w0 : World) (L : Nat → Bool) (W : World) : Prop where
 box : L 10 = false → Box W D o1 o2
 ra : L 10 = false → Rat W (.agg #[o1, o2]) p q
 rb : L 10 = false → RtL W v2 L3 L4
 sl : Sl W D
 be : Below D w0 W
theorem SW.lt {D : Nat} {o1 o2 : Value} {p q : Nat} {v2 : Value} {L3 L4 : List Nat} {w0 : World} {L : Nat → Bool} {W : World} (h : SW D o1 o2 p q v2 L3 L4 w0 L W) : D < W.heap.size := h.sl.lt
theorem SW.step {D : Nat} {o1 o2 : Value} {p q : Nat} {v2 : Value} {L3 L4 : List Nat} {w0 : World} {L : Nat → Bool} {W W' : World} (h : SW D o1 o2 p q v2 L3 L4 w0 L W) (hb : Below W.heap.size W W') (i : Nat) (hi : ¬ (10 = i)) : SW D o1 o2 p q v2 L3 L4 w0 (updB L i) W' :=
 ⟨fun hL => (h.box (by unfold updB at hL; rwa [if_neg hi] at hL)).below hb, fun hL => (h.ra (by unfold updB at hL; rwa [if_neg hi] at hL)).below hb, fun hL => (h.rb (by unfold updB at hL; rwa [if_neg hi] at hL)).below hb, h.sl.below hb, h.be.trans (hb.mono (Nat.le_of_lt h.lt))⟩
theorem SW.stored {D : Nat} {o1 o2 : Value} {p q : Nat} {v2 : Value} {L3 L4 : List Nat} {w0 : World} {L : Nat → Bool} {W W' : World} (h : SW D o1 o2 p q v2 L3 L4 w0 L W) (hb : Below D W W') (hs : Sl W' D) : SW D o1 o2 p q v2 L3 L4 w0 (updB L 10) W' :=
 ⟨fun hL => (by unfold updB at hL; rw [if_pos rfl] at hL; cases hL), fun hL => (by unfold updB at hL; rw [if_pos rfl] at hL; cases hL), fun hL => (by unfold updB at hL; rw [if_pos rfl] at hL; cases hL), hs, h.be.trans hb⟩
def PhiW (o1 o2 AL : Value) (n bp o : Nat) (v2 : Value) (EV : Int) (j : Nat) (_w : World) (x : Value) : Prop :=
 match j with
 | 0 => x = .agg #[o1, o2]
 | 1 => x = AL
 | 2 => x = .int .i64 (n : Int)
 | 3 => x = .pointer (some ⟨bp, o, none⟩)
 | 4 => x = .pointer (some ⟨bp, o + 4, none⟩)
 | 5 => x = v2
 | 6 => x = .tuple #[nilRat, .int .i64 EV]
 | 7 => x = .tuple #[nilRat, .int .i64 EV]
 | 8 => x = nilRat
 | 9 => x = .int .i64 EV
 | 11 => x = .int .i64 EV
 | _ => True
theorem PhiW.keep {o1 o2 AL : Value} {n bp o : Nat} {v2 : Value} {EV : Int} {D : Nat} : ∀ (w w' : World), Below D w w' → ∀ j x, PhiW o1 o2 AL n bp o v2 EV j w x → PhiW o1 o2 AL n bp o v2 EV j w' x := fun _ _ _ _ _ h => h
set_option maxRecDepth 100000 in
set_option maxHeartbeats 4000000 in
theorem buildL_n (Al A T S : Option Addr) (kl cl k c kt ct ks cs : Nat) (l : List Int) (ps : List PC) (Lf : Nat → List Nat × List Nat) (names : List ByteArray) (rows : List SLR) (va : Value) (L1 L2 : List Nat) (w : World) (hp : RowS cellsP w Al kl ps) (hr : RowS intC w A k l) (ht : RowS strC w T kt names) (hs : RowS slC w S ks rows)
  (HS : Hid (∀ s ∈ rows, RowS cellsR w s.A s.k s.rs ∧ ∀ x ∈ s.rs, ∀ v ∈ cellsR x, v.oneCell' = true)) (hsz : sumK rows ≤ 1073741824) (hks : ks ≤ 1073741824) (HB : Hid (∀ (n : Nat) p, ps[n]? = some p → RtL w (.agg #[p.b1, p.b2]) (Lf n).1 (Lf n).2)) (ha : RtL w va L1 L2) :
  Calls Try.prog 23 #[.slice Al kl cl, .slice A k c, .slice T kt ct, .slice S ks cs, va] w fun e w' => ∃ v, ∃ er : Int, ∃ codes : List Int, e = .returned (.tuple #[v, .int .i64 er]) ∧ Hid (BuildQ kl ks kt l ps Lf names rows L1 L2 er codes) ∧ w'.ownsRow w.heap.size 3 1 v codes.length (codes.map intV) ∧ Below w.heap.size w w' := by
 have hkl := hp.2.2; have hkt := ht.2.2; obtain ⟨A1, k1, c1, A2, k2, c2, rfl⟩ := ha.shape; have hbw1 := bA w (.cells #[.slice A1 k1 c1, .slice A2 k2 c2] 24); have hx : Box (w.alloc (.cells #[.slice A1 k1 c1, .slice A2 k2 c2] 24)) w.heap.size (.slice A1 k1 c1) (.slice A2 k2 c2) := Blk.new w _ _; have HSS : Hid (∀ s ∈ rows, RowS cellsR (w.alloc (.cells #[.slice A1 k1 c1, .slice A2 k2 c2] 24)) s.A s.k s.rs ∧ ∀ x ∈ s.rs, ∀ v ∈ cellsR x, v.oneCell' = true) := fun s h => ⟨(HS.out s h).1.below hbw1, (HS.out s h).2⟩
 go_enter Try.func23, Try.ntmps23
 go_wp2_with fail
 go_step3
 go_wp2_with fail; refine (fits_n Al A S kl cl k c ks cs kt ks l rows _ hkl (hr.below hbw1) (hs.below hbw1) HSS hsz).mono ?_; rintro e w2 ⟨er, rfl, HE, hb2⟩; have hx := hx.below hb2; have hbw2 := Below.tr hbw1 hb2; have ha2 := ha.below hbw2; clear hb2 HSS hbw1; by_cases he : er = 0
 ·have h0 : (er != 0) = false := by rw [he]; rfl
  have HFIT : Hid (fitE kl l kt ks (allR rows) = 0) := by show _ = _; rw [← HE.out]; exact he
  have HKK : Hid (kt = ks ∧ ∀ n ∈ l, outB kl n = false) := by
   have h := HFIT.out; unfold fitE at h
   split at h
   ·cases h
   ·rename_i h1
    split at h
    ·cases h
    ·rename_i h2
     refine ⟨by omega, fun n hn => ?_⟩; have h3 := List.any_eq_false.1 (by simpa using h1) n hn
     simpa using h3
  obtain ⟨Lz, HLz⟩ : ∃ L, Hid (L = l.map Int.toNat) := ⟨_, rfl⟩; obtain ⟨hnat, HIN⟩ := nat_of hr HKK.out.2 HLz.out; have hkk : kt = ks := HKK.out.1; subst hkk; obtain ⟨f1, f2⟩ := hx.facts; go_wp2_with fail; refine (valid_v ha2).mono ?_; rintro e w3 ⟨E, rfl, HV, hb3⟩; have hx := hx.below hb3; have hbw3 := Below.tr hbw2 hb3; clear hb3 f1 f2 hbw2; by_cases hE : E = 0
  ·have h1 : (E != 0) = false := by rw [hE]; rfl
   have HV0 : Nm.validE L1 L2 = 0 := by rw [← HV.out]; exact hE
   obtain ⟨a, b, rfl, rfl, ga⟩ := Nm.validE_spec ha.limb.1 ha.limb.2 HV0; have hra := (ha.below hbw3).rat; clear ha2 ha HV hE HV0; go_wp2_with fail; refine (covering_n Al A kl cl k c _ w3.heap.size (w3.heap.size + 1) rfl rfl).mono ?_; rintro e w4 ⟨rfl, Bl, Ba, hb4⟩; have hx := hx.below hb4; have hra := hra.below hb4; have hbw4 := Below.tr hbw3 hb4; clear hb4 hbw3; obtain ⟨xs, HXS⟩ : ∃ xs, Hid (xs = names.zip (rows.map (·.rs))) := ⟨_, rfl⟩; have HXL : Hid (names.length = kt ∧ rows.length = kt) := ⟨ht.2.1.symm, hs.2.1.symm⟩; go_wp2_with fail
   go_step3
   go_wp2_with fail; obtain ⟨ii, hi0, hz0, hz1, hz2⟩ := info_parts info_int; obtain ⟨TB, HTB⟩ : ∃ TB, Hid (TB = fun x => (oneC Lz ps Lf a b x)) := ⟨_, rfl⟩
   go_loopg [14, 44] kt (fun j u x wr => ∃ i : Nat, x = .int .i64 i ∧ i + j = kt ∧ wr.ownsRow w4.heap.size 3 1 u i ((xs.take i).map fun x => intV (TB x).1) ∧ Hid (∀ (m : Nat) x, m < i → xs[m]? = some x → (TB x).2 = 0) ∧ Below w4.heap.size w4 wr)
   case atStart => exact ⟨0, rfl, by omega, World.ownsRow_nil _ _ _ _, fun m x h => by omega, Below.refl _ _⟩
   case round =>
    obtain ⟨G, hG⟩ : ∃ G, G = gk := ⟨gk, rfl⟩; subst hG; obtain ⟨i, rfl, hij, hown, HZ, hbe⟩ := hrel; have hkt4 := hbe.size; by_cases hi : i < kt
    ·obtain ⟨bt, offt, name, rfl, hct, HNM⟩ := (ht.below (Below.tr hbw4 hbe)).str hi; obtain ⟨bs, offs, s, rfl, hcs, HSI⟩ := (hs.below (Below.tr hbw4 hbe)).sl hi
     have HX : Hid (xs[i]? = some (name, s.rs)) := by
      obtain ⟨h, e⟩ := HSI.out
      show _ = _; rw [HXS.out, List.getElem?_zip_eq_some.2]
      refine ⟨HNM.out, ?_⟩; rw [List.getElem?_map, List.getElem?_eq_getElem h, e]; rfl
     have hmem : s ∈ rows := by obtain ⟨h, e⟩ := HSI.out; rw [← e]; exact List.getElem_mem h
     have hsr := (HS.out s hmem); have HSO := Lib.hid hsr.2; have hrs := hsr.1; clear hsr hmem; go_wp2_with fail; refine (unit_n _).mono ?_; rintro e w9 ⟨v, rfl, hu, hb9⟩; obtain ⟨D1, m1, o1, D2, m2, o2, rfl⟩ := hu.shape; obtain ⟨wD, HWD⟩ : ∃ W, Hid (W = w9.alloc (.cells #[.slice D1 m1 o1, .slice D2 m2 o2] 24)) := ⟨_, rfl⟩; have hbD : Below w9.heap.size w9 wD := by rw [HWD.out]; exact bA _ _
     have hD : Box wD w9.heap.size (.slice D1 m1 o1) (.slice D2 m2 o2) := by rw [HWD.out]; exact Blk.new _ _ _
     have hu := hu.below hbD; have hbeD := Below.tr hbe (Below.tr hb9 hbD); have hownD := own_below hown (Below.tr hb9 hbD); have HOLT := Lib.hid (fun g hg => Nat.lt_of_lt_of_le (ownsRow_lt hown g hg) hb9.size); have hct := cell_keep hb9 hct; have hcs := cell_keep (bA w9 (.cells #[.slice D1 m1 o1, .slice D2 m2 o2] 24)) (cell_keep hb9 hcs); have hw9 := hb9.size; clear hown hb9; go_wp2_with fail; rw [← HWD.out]
     go_loopg [14, 55] s.k (fun j u x wx => ∃ (m p q : Nat) (A : Option Addr) (k c : Nat) (A' : Option Addr) (k' c' : Nat), x = .int .i64 m ∧ m + j = s.k ∧ Box wx w9.heap.size (.slice A k c) (.slice A' k' c') ∧ Rat wx (.agg #[.slice A k c, .slice A' k' c']) p q ∧ Nm.Good p q ∧ Hid (testC Lz ps Lf a b name (s.rs.drop m) p q = TB (name, s.rs)) ∧ wx.ownsRow w4.heap.size 3 1 u i ((xs.take i).map fun x => intV (TB x).1) ∧ Hid (∀ g, u.ownBlock = some g → g < w9.heap.size) ∧ Below w9.heap.size wD wx)
     case atStart => exact ⟨0, 1, 1, _, _, _, _, _, _, rfl, by omega, hD, hu, Good_one, by show _ = _; rw [HTB.out]; rfl, hownD, HOLT, Below.refl _ _⟩
     case round =>
      clear hownD HOLT; obtain ⟨m, p, q, E1, k0, c0, E2, k0', c0', rfl, hmj, hD2, hu2, gp, HTS, hownx, HOLT, hbx⟩ := hrel; have hD9 : w4.heap.size ≤ w9.heap.size := Nat.le_trans hkt4 hw9; have hD0 : w.heap.size ≤ w9.heap.size := Nat.le_trans hbw4.size hD9; have hb4x := hbeD.trans (hbx.mono hD9); have hbwx := (Below.tr hbw4 hbeD).trans (hbx.mono hD0); by_cases hm : m < s.k
      ·have hml : m < s.rs.length := by have := hrs.2.1; omega
       have hskb := hrs.2.2; obtain ⟨bq, off, hsA, HC⟩ := (hrs.below hbwx).at_ cellsR_len (by omega) hm hml; obtain ⟨r, HR⟩ : ∃ r, Hid (s.rs.drop m = r :: s.rs.drop (m + 1) ∧ r ∈ s.rs ∧ s.rs[m] = r) := ⟨s.rs[m], List.drop_eq_getElem_cons hml, List.getElem_mem hml, rfl⟩; rw [HR.out.2.2] at HC; rw [hsA]; have HALL := Lib.hid (all_oneCell_toArray (HSO.out r HR.out.2.1)); have hownR := own_below hownx (bA wr (.cells #[.int .i64 r.oc, .string r.at_, .int .i64 r.st, r.v3, r.v4, r.v5, r.v6, r.v7, r.v8, r.v9, r.v10, r.v11, r.v12, r.v13, r.v14, r.v15, r.v16, r.v17, r.v18, r.v19, r.v20, r.v21] 64)); have hb4R := Below.tr hb4x (bA wr (.cells #[.int .i64 r.oc, .string r.at_, .int .i64 r.st, r.v3, r.v4, r.v5, r.v6, r.v7, r.v8, r.v9, r.v10, r.v11, r.v12, r.v13, r.v14, r.v15, r.v16, r.v17, r.v18, r.v19, r.v20, r.v21] 64)); have hbwR := Below.tr hbwx (bA wr (.cells #[.int .i64 r.oc, .string r.at_, .int .i64 r.st, r.v3, r.v4, r.v5, r.v6, r.v7, r.v8, r.v9, r.v10, r.v11, r.v12, r.v13, r.v14, r.v15, r.v16, r.v17, r.v18, r.v19, r.v20, r.v21] 64)); by_cases ho : r.oc = 0
       ·have hd : (r.oc == 0) = true := by simpa using ho
        have HT : Hid (TB (name, s.rs) = (0, 0)) := by
         show _ = _; rw [← HTS.out, HR.out.1]; unfold testC; rw [if_pos ho]
        clear ho; have hbA := bA (wr.alloc (.cells #[.int .i64 r.oc, .string r.at_, .int .i64 r.st, r.v3, r.v4, r.v5, r.v6, r.v7, r.v8, r.v9, r.v10, r.v11, r.v12, r.v13, r.v14, r.v15, r.v16, r.v17, r.v18, r.v19, r.v20, r.v21] 64)) (.cells #[.int .i64 0] 3); have howA := own_below hownR hbA; have hb4A := Below.tr hb4R hbA; have hszA := hb4A.size
        have hrdA : Rd ((wr.alloc (.cells #[.int .i64 r.oc, .string r.at_, .int .i64 r.st, r.v3, r.v4, r.v5, r.v6, r.v7, r.v8, r.v9, r.v10, r.v11, r.v12, r.v13, r.v14, r.v15, r.v16, r.v17, r.v18, r.v19, r.v20, r.v21] 64)).alloc (.cells #[.int .i64 0] 3)) (some ⟨wr.heap.size + 1, 0, none⟩) [.int .i64 0] := by
         have h := Rd.fresh (wr.alloc (.cells #[.int .i64 r.oc, .string r.at_, .int .i64 r.st, r.v3, r.v4, r.v5, r.v6, r.v7, r.v8, r.v9, r.v10, r.v11, r.v12, r.v13, r.v14, r.v15, r.v16, r.v17, r.v18, r.v19, r.v20, r.v21] 64)) 3 [.int .i64 0]
         rwa [show (wr.alloc (.cells #[.int .i64 r.oc, .string r.at_, .int .i64 r.st, r.v3, r.v4, r.v5, r.v6, r.v7, r.v8, r.v9, r.v10, r.v11, r.v12, r.v13, r.v14, r.v15, r.v16, r.v17, r.v18, r.v19, r.v20, r.v21] 64)).heap.size = wr.heap.size + 1 by simp] at h
        go_wp2_with (first | (refine wpList_load_mid rfl 64 (.tmp 57) rfl bq (off + m * 22) rfl [.int .i64 r.oc, .string r.at_, .int .i64 r.st, r.v3, r.v4, r.v5, r.v6, r.v7, r.v8, r.v9, r.v10, r.v11, r.v12, r.v13, r.v14, r.v15, r.v16, r.v17, r.v18, r.v19, r.v20, r.v21] _ (fun j v h => HC.out j v h) Try.underlying64 rfl infoR ?_) | (refine wpList_store_mid rfl 64 (.tmp 20) (.tmp 58) rfl wr.heap.size 0 #[.int .i64 r.oc, .string r.at_, .int .i64 r.st, r.v3, r.v4, r.v5, r.v6, r.v7, r.v8, r.v9, r.v10, r.v11, r.v12, r.v13, r.v14, r.v15, r.v16, r.v17, r.v18, r.v19, r.v20, r.v21] rfl rfl (there_new _ _ _ 22 (by simp)) (by kernel_rfl) HALL.out ?_; rw [setCells_new]; rotate_left; rfl) | (at_builtin; go_loud (refine wpList_append_any _ rfl (.tmp 62) (.tmp 63) _ rfl w4.heap.size 3 ii _ 1 8 Try.underlying35 hi0 hz0 hz1 hz2 rfl (by omega) _ i _ rfl howA _ 1 1 [.int .i64 0] rfl rfl hrdA (by simp [Value.oneCell']) (by simp only [maxLen]; omega) (by omega) hszA ?_); intro v1 w11 hown1 hg1 hat1))
        have hrow := hown1; rw [take_map (f := fun x => intV (TB x).1) HX.out (by show intV (TB (name, s.rs)).1 = Value.int .i64 0; rw [HT.out]; rfl)] at hrow; have hb4B := hb4A.grown hg1 hszA (own_block_ge howA); have HZ2 := first_zero (TB := TB) HZ.out HX.out (by rw [HT.out])
        go_roundg (G - 1)
        case measure => omega
        case rel => exact ⟨i + 1, by go_num, by omega, hrow, HZ2, hb4B⟩
       ·have hd : (r.oc == 0) = false := by simpa using ho
        have HO1 := Lib.hid ho; clear ho
        go_wp2_with (first | (refine wpList_load_mid rfl 64 (.tmp 57) rfl bq (off + m * 22) rfl [.int .i64 r.oc, .string r.at_, .int .i64 r.st, r.v3, r.v4, r.v5, r.v6, r.v7, r.v8, r.v9, r.v10, r.v11, r.v12, r.v13, r.v14, r.v15, r.v16, r.v17, r.v18, r.v19, r.v20, r.v21] _ (fun j v h => HC.out j v h) Try.underlying64 rfl infoR ?_) | (refine wpList_store_mid rfl 64 (.tmp 20) (.tmp 58) rfl wr.heap.size 0 #[.int .i64 r.oc, .string r.at_, .int .i64 r.st, r.v3, r.v4, r.v5, r.v6, r.v7, r.v8, r.v9, r.v10, r.v11, r.v12, r.v13, r.v14, r.v15, r.v16, r.v17, r.v18, r.v19, r.v20, r.v21] rfl rfl (there_new _ _ _ 22 (by simp)) (by kernel_rfl) HALL.out ?_; rw [setCells_new]; rotate_left; rfl) | (refine wpList_load_mid rfl 64 (.tmp 20) rfl wr.heap.size 0 rfl [.int .i64 r.oc, .string r.at_, .int .i64 r.st, r.v3, r.v4, r.v5, r.v6, r.v7, r.v8, r.v9, r.v10, r.v11, r.v12, r.v13, r.v14, r.v15, r.v16, r.v17, r.v18, r.v19, r.v20, r.v21] _ (Blk.range (Blk.new wr 64 #[.int .i64 r.oc, .string r.at_, .int .i64 r.st, r.v3, r.v4, r.v5, r.v6, r.v7, r.v8, r.v9, r.v10, r.v11, r.v12, r.v13, r.v14, r.v15, r.v16, r.v17, r.v18, r.v19, r.v20, r.v21])) Try.underlying64 rfl infoR ?_))
        refine (covering1_n A Al k c _ _ kl cl Lz ps name r _ ((hnat.below hbwR)) (cell_keep hb4R (Ba.cell 0)) (cell_keep hb4R (Bl.cell 0)) (hp.below hbwR) HIN).mono ?_; rintro e w12 ⟨P0, rfl, hP1, HO, hb12⟩; have HP0 : Hid (P0 = ofN Lz ps name r) := HO.out.eq; have hown12 := own_below hownR hb12; have hb412 := Below.tr hb4R hb12; have hbw12 := Below.tr hbwR hb12; by_cases hneg : P0 < 0
        ·have hd2 : decide (P0 < 0) = true := by simpa using hneg
         have HT : Hid (TB (name, s.rs) = (2, 0)) := by
          show _ = _; rw [← HTS.out, HR.out.1]; unfold testC; rw [if_neg HO1.out, if_pos (by rw [← HP0.out]; exact hneg)]
         clear hneg HO hownR hb4R hbwR; have hbA := bA w12 (.cells #[.int .i64 2] 3); have howA := own_below hown12 hbA; have hb4A := Below.tr hb412 hbA; have hszA := hb4A.size
         have hrdA : Rd (w12.alloc (.cells #[.int .i64 2] 3)) (some ⟨w12.heap.size, 0, none⟩) [.int .i64 2] := by
          have h := Rd.fresh w12 3 [.int .i64 2]
          rwa [show w12.heap.size = w12.heap.size by simp] at h
         go_wp2_with (first | (at_builtin; go_loud (refine wpList_append_any _ rfl (.tmp 71) (.tmp 72) _ rfl w4.heap.size 3 ii _ 1 8 Try.underlying35 hi0 hz0 hz1 hz2 rfl (by omega) _ i _ rfl howA _ 1 1 [.int .i64 2] rfl rfl hrdA (by simp [Value.oneCell']) (by simp only [maxLen]; omega) (by omega) hszA ?_); intro v1 w11 hown1 hg1 hat1))
         have hrow := hown1; rw [take_map (f := fun x => intV (TB x).1) HX.out (by show intV (TB (name, s.rs)).1 = Value.int .i64 2; rw [HT.out]; rfl)] at hrow; have hb4B := hb4A.grown hg1 hszA (own_block_ge howA); have HZ2 := first_zero (TB := TB) HZ.out HX.out (by rw [HT.out])
         go_roundg (G - 1)
         case measure => omega
         case rel => exact ⟨i + 1, by go_num, by omega, hrow, HZ2, hb4B⟩
        ·obtain ⟨n, hn, hnl⟩ : ∃ n : Nat, P0 = n ∧ n < kl := by
          rcases HO.out with ⟨h, _⟩ | ⟨i, n, h, h2, _, _⟩
          ·omega
          ·exact ⟨n, h, HIN.out _ _ h2⟩
         subst hn; have hd2 : decide ((n : Int) < 0) = false := by simp
         have hpl : n < ps.length := by have := hp.2.1; omega
         obtain ⟨bp, offp, rfl, HPC⟩ := hp.at_ cellsP_len (by omega) hnl hpl; obtain ⟨pn, HPN⟩ : ∃ pn, Hid (ps[n]? = some pn ∧ ps[n] = pn) := ⟨ps[n], List.getElem?_eq_getElem hpl, rfl⟩; rw [HPN.out.2] at HPC; obtain ⟨L3, L4, HL34⟩ : ∃ L3 L4, Hid (Lf n = (L3, L4)) := ⟨_, _, rfl⟩; have hbl := HB.out n pn HPN.out.1; rw [HL34.out] at hbl; simp only at hbl; obtain ⟨B1, l1, d1, B2, l2, d2, hsh⟩ := hbl.shape; have q4 := HPC.out 4 _ rfl; have q5 := HPC.out 5 _ rfl; simp only [Value.agg.injEq, Array.mk.injEq, List.cons.injEq, and_true] at hsh; rw [hsh.1] at q4; rw [hsh.2] at q5; rw [hsh.1, hsh.2] at hbl; have hbl12 := hbl.below hbw12; have hD12 := hD2.below (Below.tr (bA wr (.cells #[.int .i64 r.oc, .string r.at_, .int .i64 r.st, r.v3, r.v4, r.v5, r.v6, r.v7, r.v8, r.v9, r.v10, r.v11, r.v12, r.v13, r.v14, r.v15, r.v16, r.v17, r.v18, r.v19, r.v20, r.v21] 64)) hb12); have hu12 := hu2.below (Below.tr (bA wr (.cells #[.int .i64 r.oc, .string r.at_, .int .i64 r.st, r.v3, r.v4, r.v5, r.v6, r.v7, r.v8, r.v9, r.v10, r.v11, r.v12, r.v13, r.v14, r.v15, r.v16, r.v17, r.v18, r.v19, r.v20, r.v21] 64)) hb12); have hx12 := (hx.below hb412); have hra12 := hra.below hb412; have hwD : w.heap.size < w4.heap.size := hx.lt; have hbx12 := hbx.trans ((Below.tr (bA wr (.cells #[.int .i64 r.oc, .string r.at_, .int .i64 r.st, r.v3, r.v4, r.v5, r.v6, r.v7, r.v8, r.v9, r.v10, r.v11, r.v12, r.v13, r.v14, r.v15, r.v16, r.v17, r.v18, r.v19, r.v20, r.v21] 64)) hb12).mono (Nat.le_of_lt hD2.lt))
         clear HPC HO hownR hb4R hbwR hneg hbl hsh hD2 hu2; by_cases hval : Nm.validE L3 L4 = 0
         ·obtain ⟨pb, qb, hgl, hrb12⟩ := hbl12.good hval; have gb := hgl.2.2; have hgo := testC_go (L := Lz) (ps := ps) (a := a) (b := b) (p := p) (q := q) (rs := s.rs.drop (m + 1)) HO1.out HP0.out HL34.out hval hgl; rw [← HR.out.1, HTS.out] at hgo; have HGO := Lib.hid hgo; clear hgo hgl hval hbl12; go_upto_region 22 with fail; refine region_invl (PhiU w9.heap.size (.slice E1 k0 c0) (.slice E2 k0' c0') (.slice (some ⟨bp, offp, none⟩) kl cl) n bp (offp + n * 24) (.agg #[.slice B1 l1 d1, .slice B2 l2 d2]) (p * pb) (q * qb)) (RM w9.heap.size w9.heap.size (p * pb) (q * qb)) (SB w9.heap.size (.slice E1 k0 c0) (.slice E2 k0' c0') p q (.agg #[.slice B1 l1 d1, .slice B2 l2 d2]) pb qb (.agg #[.slice A1 k1 c1, .slice A2 k2 c2]) a b w12) (by kernel_rfl) (by kernel_rfl) (by kernel_rfl) PhiU.keep ⟨fun _ => hD12, hu12, hrb12, hra12, ⟨_, _, _, _, _, _, hD12⟩, (Below.refl _ _).drew⟩ ?_ ?_
          ·refine sK ?_ (sK ?_ (sK ?_ (sK ?_ (sK ?_ (sK ?_ (sK ?_ (sK ?_ (sK ?_ (sK ?_ (sK ?_ (sK ?_ (sZ))))))))))))
           ·as_aux_lemma =>
            intro vs L W hS hL cl hdep K hK
            have h10 : L 10 = false := by
             cases h : L 10 with
             | false => rfl
             | true =>
              have h8 := cl 10 _ rfl h ⟨8, .data⟩ (by simp) rfl; have h7 := cl 8 _ rfl h8 ⟨7, .data⟩ (by simp) rfl; have h6 := cl 7 _ rfl h7 ⟨6, .data⟩ (by simp) rfl; have h0 := cl 6 _ rfl h6 ⟨0, .data⟩ (by simp) rfl; rw [hL] at h0; cases h0
            have f1 := (hS.box h10).facts.1; have f2 := (hS.box h10).facts.2; refine ⟨?_⟩; simp only [fillR, Act.put, sA, sB, sC, Nat.zero_add, Nat.reduceAdd] at hK ⊢; go_simp; with_reducible refine hK _ _ (RM.refl _) (hS.step (Below.refl _ _) 0 (by decide)) ?_
            exact rfl
           ·as_aux_lemma =>
            intro vs L W hS hL cl hdep K hK; refine ⟨?_⟩; simp only [fillR, Act.put, sA, sB, sC, Nat.zero_add, Nat.reduceAdd] at hK ⊢; go_simp; with_reducible refine hK _ _ (RM.refl _) (hS.step (Below.refl _ _) 1 (by decide)) ?_
            exact rfl
           ·as_aux_lemma =>
            intro vs L W hS hL cl hdep K hK; refine ⟨?_⟩; simp only [fillR, Act.put, sA, sB, sC, Nat.zero_add, Nat.reduceAdd] at hK ⊢; go_simp; with_reducible refine hK _ _ (RM.refl _) (hS.step (Below.refl _ _) 2 (by decide)) ?_
            exact rfl
           ·as_aux_lemma =>
            intro vs L W hS hL cl hdep K hK; have d0 := hdep ⟨1, .data⟩ (by simp) rfl; simp only [PhiU] at d0; have d1 := hdep ⟨2, .data⟩ (by simp) rfl; simp only [PhiU] at d1; refine ⟨?_⟩; simp only [fillR, Act.put, sA, sB, sC, Nat.zero_add, Nat.reduceAdd, d0, d1] at hK ⊢; go_simp; with_reducible refine hK _ _ (RM.refl _) (hS.step (Below.refl _ _) 3 (by decide)) ?_
            exact rfl
           ·as_aux_lemma =>
            intro vs L W hS hL cl hdep K hK; have d0 := hdep ⟨3, .data⟩ (by simp) rfl; simp only [PhiU] at d0; refine ⟨?_⟩; simp only [fillR, Act.put, sA, sB, sC, Nat.zero_add, Nat.reduceAdd, d0] at hK ⊢; go_simp; with_reducible refine hK _ _ (RM.refl _) (hS.step (Below.refl _ _) 4 (by decide)) ?_
            exact rfl
           ·as_aux_lemma =>
            intro vs L W hS hL cl hdep K hK; have d0 := hdep ⟨4, .data⟩ (by simp) rfl; simp only [PhiU] at d0; have f4 := cell_keep (hbw12.trans (hS.be.mono hD0)) q4; have f5 := cell_keep (hbw12.trans (hS.be.mono hD0)) q5; refine ⟨?_⟩; simp only [fillR, Act.put, sA, sB, sC, Nat.zero_add, Nat.reduceAdd, d0] at hK ⊢; go_simp; with_reducible refine hK _ _ (RM.refl _) (hS.step (Below.refl _ _) 5 (by decide)) ?_
            exact rfl
           ·as_aux_lemma =>
            intro vs L W hS hL cl hdep K hK; have d0 := hdep ⟨0, .data⟩ (by simp) rfl; simp only [PhiU] at d0; have d1 := hdep ⟨5, .data⟩ (by simp) rfl; simp only [PhiU] at d1; refine ⟨?_⟩; simp only [fillR, Act.put, sA, sB, sC, Nat.zero_add, Nat.reduceAdd, d0, d1] at hK ⊢; go_simp; refine (mul_n _ _ p q pb qb _ hS.ra hS.rb gp gb).mono ?_; rintro e w' ⟨v, er, rfl, hn, hb⟩; go_wp2_with fail; with_reducible refine hK _ _ (RM.below hb (Nat.le_of_lt hS.sl.lt) hS.sl.lt) (hS.step hb 6 (by decide)) ?_
            exact ⟨v, er, rfl, hn⟩
           ·as_aux_lemma =>
            intro vs L W hS hL cl hdep K hK; have d0 := hdep ⟨6, .data⟩ (by simp) rfl; simp only [PhiU] at d0; refine @exE2 _ _ _ _ d0 ?_; clear d0; intro v0 er0 d0; have e0 := d0.1; have n0 := d0.2; clear d0; refine ⟨?_⟩; simp only [fillR, Act.put, sA, sB, sC, Nat.zero_add, Nat.reduceAdd, e0] at hK ⊢; go_simp; with_reducible refine hK _ _ (RM.refl _) (hS.step (Below.refl _ _) 7 (by decide)) ?_
            exact ⟨_, _, rfl, n0⟩
           ·as_aux_lemma =>
            intro vs L W hS hL cl hdep K hK; have d0 := hdep ⟨7, .data⟩ (by simp) rfl; simp only [PhiU] at d0; refine @exE2 _ _ _ _ d0 ?_; clear d0; intro v0 er0 d0; have e0 := d0.1; have n0 := d0.2; clear d0; refine ⟨?_⟩; simp only [fillR, Act.put, sA, sB, sC, Nat.zero_add, Nat.reduceAdd, e0] at hK ⊢; go_simp; with_reducible refine hK _ _ (RM.refl _) (hS.step (Below.refl _ _) 8 (by decide)) ?_
            exact RedV.of n0
           ·as_aux_lemma =>
            intro vs L W hS hL cl hdep K hK; have d0 := hdep ⟨7, .data⟩ (by simp) rfl; simp only [PhiU] at d0; refine @exE2 _ _ _ _ d0 ?_; clear d0; intro v0 er0 d0; have e0 := d0.1; have n0 := d0.2; clear d0; refine ⟨?_⟩; simp only [fillR, Act.put, sA, sB, sC, Nat.zero_add, Nat.reduceAdd, e0] at hK ⊢; go_simp; with_reducible refine hK _ _ (RM.refl _) (hS.step (Below.refl _ _) 9 (by decide)) ?_
            exact ⟨_, rfl, n0.err⟩
           ·as_aux_lemma =>
            intro vs L W hS hL cl hdep K hK; have d0 := hdep ⟨8, .data⟩ (by simp) rfl; simp only [PhiU] at d0; obtain ⟨A, k, c, A', k', c', er, e0, n0⟩ := d0; obtain ⟨r1, r2, r3, r4, r5, r6, hres⟩ := hS.sl; have q1 := hres.cell 0; have q2 := hres.cell 1; have q3 := hres.frozen 0; have q4 := hres.frozen 1; simp at q1 q2; have HR2 := Lib.hid (RM.store (B := w9.heap.size) hS.sl (Nat.le_refl _) n0); clear hres; refine ⟨?_⟩; simp only [fillR, Act.put, sA, sB, sC, Nat.zero_add, Nat.reduceAdd, e0] at hK ⊢; go_simp; with_reducible refine hK undef _ HR2.out.1 (hS.stored HR2.out.1) ?_
            exact HR2.out.2
           ·as_aux_lemma =>
            intro vs L W hS hL cl hdep K hK; have d0 := hdep ⟨9, .data⟩ (by simp) rfl; simp only [PhiU] at d0; refine @exE1 _ _ _ d0 ?_; clear d0; intro er0 d0; have e0 := d0.1; have n0 := d0.2; clear d0; refine ⟨?_⟩; simp only [fillR, Act.put, sA, sB, sC, Nat.zero_add, Nat.reduceAdd, e0] at hK ⊢; go_simp; with_reducible refine hK _ _ (RM.refl _) (hS.step (Below.refl _ _) 11 (by decide)) ?_
            exact ⟨_, rfl, n0⟩
          ·intro vs L W hS hall hv; have v11 := hv 11 (by simp); have v10 := hv 10 (by simp); simp only [PhiU] at v11 v10; obtain ⟨er, e11, hErr⟩ := v11; obtain ⟨A9, k9, c9, A9', k9', c9', er', hblk, hP9⟩ := v10; obtain rfl : er = er' := hErr.uniq hP9.err; have hbeW := hS.be; have hraW := hS.rl; have hbxW := hbx12.trans hbeW; have hownW := ownsRow_keep hown12 (fun g hg => hbeW.block g (HOLT.out g hg)); have hxW := Blk.below hx12 hbeW (Nat.lt_of_lt_of_le hwD hD9); have hb4W := hb412.trans (hbeW.mono hD9); have hbwW := hbw12.trans (hbeW.mono hD0); clear hv hErr hS hall q4 q5; simp only [fillR, Act.put, sA, sB, sC, Nat.zero_add, Nat.reduceAdd, e11]
           rcases hP9 with ⟨hF, rfl, hR9⟩ | ⟨hF, rfl, _⟩
           ·have GN := good_red (n := p * pb) (d := q * qb) (Nat.mul_pos gp.pos gb.pos) hF; have HGa := Lib.hid (HGO.out.1 hF); have HGb := Lib.hid (HGO.out.2.1 hF); clear HGO hF; obtain ⟨N', HN'⟩ : ∃ N, Hid (N = p * pb / Nat.gcd (p * pb) (q * qb)) := ⟨_, rfl⟩; obtain ⟨M', HM'⟩ : ∃ N, Hid (N = q * qb / Nat.gcd (p * pb) (q * qb)) := ⟨_, rfl⟩; rw [← HN'.out, ← HM'.out] at GN HGa HGb hR9; have f5 := hblk.cell 0; have f6 := hblk.cell 1; have f7 := hxW.cell 0; have f8 := hxW.cell 1; simp only [List.getElem?_toArray, List.getElem?_cons_zero, List.getElem?_cons_succ] at f5 f6 f7 f8; clear hownx hown12 hb412 hbw12 hx12 hra12 hrb12 hD12 hu12 hrs hct hcs hra; by_cases hle : N' * b ≤ a * M'
            ·have HT : Hid (TB (name, s.rs) = (2, 0)) := HGa.out hle; go_wp2_with fail; refine (most_t _ _ N' M' a b _ hR9 hraW GN ga hle).mono ?_; rintro e w13 ⟨rfl, hb13⟩; have hown13 := own_below hownW hb13; have hb413 := Below.tr hb4W hb13; clear hle hblk hxW hR9 hraW HGa HGb f5 f6 f7 f8; have hbA := bA w13 (.cells #[.int .i64 2] 3); have howA := own_below hown13 hbA; have hb4A := Below.tr hb413 hbA; have hszA := hb4A.size
             have hrdA : Rd (w13.alloc (.cells #[.int .i64 2] 3)) (some ⟨w13.heap.size, 0, none⟩) [.int .i64 2] := by
              have h := Rd.fresh w13 3 [.int .i64 2]
              rwa [show w13.heap.size = w13.heap.size by simp] at h
             go_wp2_with (first | (at_builtin; go_loud (refine wpList_append_any _ rfl (.tmp 90) (.tmp 91) _ rfl w4.heap.size 3 ii _ 1 8 Try.underlying35 hi0 hz0 hz1 hz2 rfl (by omega) _ i _ rfl howA _ 1 1 [.int .i64 2] rfl rfl hrdA (by simp [Value.oneCell']) (by simp only [maxLen]; omega) (by omega) hszA ?_); intro v1 w11 hown1 hg1 hat1))
             have hrow := hown1; rw [take_map (f := fun x => intV (TB x).1) HX.out (by show intV (TB (name, s.rs)).1 = Value.int .i64 2; rw [HT.out]; rfl)] at hrow; have hb4B := hb4A.grown hg1 hszA (own_block_ge howA); have HZ2 := first_zero (TB := TB) HZ.out HX.out (by rw [HT.out])
             go_roundg (G - 1)
             case measure => omega
             case rel => exact ⟨i + 1, by go_num, by omega, hrow, HZ2, hb4B⟩
            ·have HTS2 : Hid (testC Lz ps Lf a b name (s.rs.drop (m + 1)) N' M' = TB (name, s.rs)) := (HGb.out hle).symm; have hlt : a * M' < N' * b := by omega
             go_wp2_with fail; refine (most_f _ _ N' M' a b _ hR9 hraW GN ga hlt).mono ?_; rintro e w13 ⟨rfl, hb13⟩; go_wp2_with fail; rw [← hsA]
             go_roundg (gk - 1)
             case measure => omega
             case rel => exact ⟨m + 1, N', M', _, _, _, _, _, _, by go_num, by omega, Blk.below hblk hb13 hblk.lt, hR9.below hb13, GN, HTS2, own_below hownW hb13, HOLT, hbxW.trans (hb13.mono (Nat.le_of_lt hblk.lt))⟩
           ·have HT : Hid (TB (name, s.rs) = (0, 4)) := HGO.out.2.2 hF
            have HE : Hid ((4 : Int) = fbad (fun x => oneC (l.map Int.toNat) ps Lf a b x) (names.zip (rows.map (·.rs)))) := by
             show _ = _
             rw [← HLz.out, ← HXS.out]; have h2 : (oneC Lz ps Lf a b (name, s.rs)).2 = 4 := by have := HT.out; rw [HTB.out] at this; exact congrArg Prod.snd this
             rw [fbad_at HX.out (fun m y hm hy => by have := HZ.out m y hm hy; rw [HTB.out] at this; exact this) (by rw [h2]; decide), h2]
            have HP : Hid (BuildQ kl kt kt l ps Lf names rows (Nm.lb a) (Nm.lb (Nm.dn b)) 4 []) := .inr (.inr ⟨HFIT.out, a, b, rfl, rfl, ga, HE.out, by rw [if_neg (by decide)]⟩); clear hownx hown12 hb412 hbw12 hx12 hra12 hrb12 hD12 hu12 hrs hct hcs hra hF HGO; go_wp2_with fail
            (try rw [Exit.noGoto_ret])
            go_ret2
            exact ⟨_, _, [], rfl, HP, World.ownsRow_nil _ _ _ _, hbwW⟩
         ·have HT : Hid (TB (name, s.rs) = (0, Nm.validE L3 L4)) := by
           show _ = _; rw [← HTS.out, HR.out.1]; exact testC_bad HO1.out HP0.out HL34.out hval
          have HE : Hid (Nm.validE L3 L4 = fbad (fun x => oneC (l.map Int.toNat) ps Lf a b x) (names.zip (rows.map (·.rs)))) := by
           show _ = _
           rw [← HLz.out, ← HXS.out]; have h2 : (oneC Lz ps Lf a b (name, s.rs)).2 = Nm.validE L3 L4 := by have := HT.out; rw [HTB.out] at this; exact congrArg Prod.snd this
           rw [fbad_at HX.out (fun m y hm hy => by have := HZ.out m y hm hy; rw [HTB.out] at this; exact this) (by rw [h2]; exact hval), h2]
          obtain ⟨EV, HEV⟩ : ∃ E, Hid (E = Nm.validE L3 L4) := ⟨_, rfl⟩; have HP : Hid (BuildQ kl kt kt l ps Lf names rows (Nm.lb a) (Nm.lb (Nm.dn b)) EV []) := .inr (.inr ⟨HFIT.out, a, b, rfl, rfl, ga, by rw [HEV.out]; exact HE.out, by rw [if_neg (by rw [HEV.out]; exact hval)]⟩); have hEV : (EV != 0) = true := by rw [HEV.out]; simpa using hval
          have HFE : Hid (firstE (Nm.validE (Nm.lb p) (Nm.lb (Nm.dn q))) (Nm.validE L3 L4) ≠ 0 ∧ firstE (Nm.validE (Nm.lb p) (Nm.lb (Nm.dn q))) (Nm.validE L3 L4) = EV) := by
           rw [Nm.validE_of gp, firstE, if_pos rfl]; exact ⟨hval, HEV.out.symm⟩
          clear hval; go_upto_region 22 with fail; refine region_invl (PhiW (.slice E1 k0 c0) (.slice E2 k0' c0') (.slice (some ⟨bp, offp, none⟩) kl cl) n bp (offp + n * 24) (.agg #[.slice B1 l1 d1, .slice B2 l2 d2]) EV) (fun w w' => Below w9.heap.size w w') (SW w9.heap.size (.slice E1 k0 c0) (.slice E2 k0' c0') p q (.agg #[.slice B1 l1 d1, .slice B2 l2 d2]) L3 L4 w12) (by kernel_rfl) (by kernel_rfl) (by kernel_rfl) PhiW.keep ⟨fun _ => hD12.below (bD _), fun _ => hu12.below (bD _), fun _ => hbl12.below (bD _), ⟨_, _, _, _, _, _, hD12.below (bD _)⟩, (Below.refl _ _).drew⟩ ?_ ?_
          ·refine sK ?_ (sK ?_ (sK ?_ (sK ?_ (sK ?_ (sK ?_ (sK ?_ (sK ?_ (sK ?_ (sK ?_ (sK ?_ (sK ?_ (sZ))))))))))))
           ·as_aux_lemma =>
            intro vs L W hS hL cl hdep K hK
            have h10 : L 10 = false := by
             cases h : L 10 with
             | false => rfl
             | true =>
              have h8 := cl 10 _ rfl h ⟨8, .data⟩ (by simp) rfl; have h7 := cl 8 _ rfl h8 ⟨7, .data⟩ (by simp) rfl; have h6 := cl 7 _ rfl h7 ⟨6, .data⟩ (by simp) rfl; have h0 := cl 6 _ rfl h6 ⟨0, .data⟩ (by simp) rfl; rw [hL] at h0; cases h0
            have f1 := (hS.box h10).facts.1; have f2 := (hS.box h10).facts.2; refine ⟨?_⟩; simp only [fillR, Act.put, sA, sB, sC, Nat.zero_add, Nat.reduceAdd] at hK ⊢; go_simp; with_reducible refine hK _ _ (Below.refl _ _) (hS.step (Below.refl _ _) 0 (by decide)) ?_
            exact rfl
           ·as_aux_lemma =>
            intro vs L W hS hL cl hdep K hK; refine ⟨?_⟩; simp only [fillR, Act.put, sA, sB, sC, Nat.zero_add, Nat.reduceAdd] at hK ⊢; go_simp; with_reducible refine hK _ _ (Below.refl _ _) (hS.step (Below.refl _ _) 1 (by decide)) ?_
            exact rfl
           ·as_aux_lemma =>
            intro vs L W hS hL cl hdep K hK; refine ⟨?_⟩; simp only [fillR, Act.put, sA, sB, sC, Nat.zero_add, Nat.reduceAdd] at hK ⊢; go_simp; with_reducible refine hK _ _ (Below.refl _ _) (hS.step (Below.refl _ _) 2 (by decide)) ?_
            exact rfl
           ·as_aux_lemma =>
            intro vs L W hS hL cl hdep K hK; have d0 := hdep ⟨1, .data⟩ (by simp) rfl; simp only [PhiW] at d0; have d1 := hdep ⟨2, .data⟩ (by simp) rfl; simp only [PhiW] at d1; refine ⟨?_⟩; simp only [fillR, Act.put, sA, sB, sC, Nat.zero_add, Nat.reduceAdd, d0, d1] at hK ⊢; go_simp; with_reducible refine hK _ _ (Below.refl _ _) (hS.step (Below.refl _ _) 3 (by decide)) ?_
            exact rfl
           ·as_aux_lemma =>
            intro vs L W hS hL cl hdep K hK; have d0 := hdep ⟨3, .data⟩ (by simp) rfl; simp only [PhiW] at d0; refine ⟨?_⟩; simp only [fillR, Act.put, sA, sB, sC, Nat.zero_add, Nat.reduceAdd, d0] at hK ⊢; go_simp; with_reducible refine hK _ _ (Below.refl _ _) (hS.step (Below.refl _ _) 4 (by decide)) ?_
            exact rfl
           ·as_aux_lemma =>
            intro vs L W hS hL cl hdep K hK; have d0 := hdep ⟨4, .data⟩ (by simp) rfl; simp only [PhiW] at d0; have f4 := cell_keep (hbw12.trans (hS.be.mono hD0)) q4; have f5 := cell_keep (hbw12.trans (hS.be.mono hD0)) q5; refine ⟨?_⟩; simp only [fillR, Act.put, sA, sB, sC, Nat.zero_add, Nat.reduceAdd, d0] at hK ⊢; go_simp; with_reducible refine hK _ _ (Below.refl _ _) (hS.step (Below.refl _ _) 5 (by decide)) ?_
            exact rfl
           ·as_aux_lemma =>
            intro vs L W hS hL cl hdep K hK; have d0 := hdep ⟨0, .data⟩ (by simp) rfl; simp only [PhiW] at d0; have d1 := hdep ⟨5, .data⟩ (by simp) rfl; simp only [PhiW] at d1
            have h10 : L 10 = false := by
             cases h : L 10 with
             | false => rfl
             | true =>
              have h8 := cl 10 _ rfl h ⟨8, .data⟩ (by simp) rfl; have h7 := cl 8 _ rfl h8 ⟨7, .data⟩ (by simp) rfl; have h6 := cl 7 _ rfl h7 ⟨6, .data⟩ (by simp) rfl; rw [hL] at h6; cases h6
            refine ⟨?_⟩; simp only [fillR, Act.put, sA, sB, sC, Nat.zero_add, Nat.reduceAdd, d0, d1] at hK ⊢; go_simp; refine (mul_err _ _ _ _ L3 L4 _ (hS.ra h10).rtl (hS.rb h10) HFE.out.1).mono ?_; rintro e w' ⟨rfl, hb⟩; rw [HFE.out.2]; go_wp2_with fail; with_reducible refine hK _ _ (hb.mono (Nat.le_of_lt hS.lt)) (hS.step hb 6 (by decide)) ?_
            exact rfl
           ·as_aux_lemma =>
            intro vs L W hS hL cl hdep K hK; have d0 := hdep ⟨6, .data⟩ (by simp) rfl; simp only [PhiW] at d0; refine ⟨?_⟩; simp only [fillR, Act.put, sA, sB, sC, Nat.zero_add, Nat.reduceAdd, d0] at hK ⊢; go_simp; with_reducible refine hK _ _ (Below.refl _ _) (hS.step (Below.refl _ _) 7 (by decide)) ?_
            exact rfl
           ·as_aux_lemma =>
            intro vs L W hS hL cl hdep K hK; have d0 := hdep ⟨7, .data⟩ (by simp) rfl; simp only [PhiW] at d0; refine ⟨?_⟩; simp only [fillR, Act.put, sA, sB, sC, Nat.zero_add, Nat.reduceAdd, d0] at hK ⊢; go_simp; with_reducible refine hK _ _ (Below.refl _ _) (hS.step (Below.refl _ _) 8 (by decide)) ?_
            exact rfl
           ·as_aux_lemma =>
            intro vs L W hS hL cl hdep K hK; have d0 := hdep ⟨7, .data⟩ (by simp) rfl; simp only [PhiW] at d0; refine ⟨?_⟩; simp only [fillR, Act.put, sA, sB, sC, Nat.zero_add, Nat.reduceAdd, d0] at hK ⊢; go_simp; with_reducible refine hK _ _ (Below.refl _ _) (hS.step (Below.refl _ _) 9 (by decide)) ?_
            exact rfl
           ·as_aux_lemma =>
            intro vs L W hS hL cl hdep K hK; have d0 := hdep ⟨8, .data⟩ (by simp) rfl; simp only [PhiW] at d0; obtain ⟨r1, r2, r3, r4, r5, r6, hres⟩ := hS.sl; have q1 := hres.cell 0; have q2 := hres.cell 1; have q3 := hres.frozen 0; have q4 := hres.frozen 1; simp at q1 q2; have hbs := ((Below.refl w9.heap.size W).setCell (p := ⟨w9.heap.size, 0, none⟩) (Nat.le_refl _) (.slice none 0 0)).setCell (p := ⟨w9.heap.size, 1, none⟩) (Nat.le_refl _) (.slice none 0 0); clear hres; refine ⟨?_⟩; simp only [fillR, Act.put, sA, sB, sC, Nat.zero_add, Nat.reduceAdd, d0, nilRat] at hK ⊢; go_simp; with_reducible refine hK undef _ hbs (hS.stored hbs ((hS.sl.set0 _ _ _).set1 _ _ _)) ?_
            exact trivial
           ·as_aux_lemma =>
            intro vs L W hS hL cl hdep K hK; have d0 := hdep ⟨9, .data⟩ (by simp) rfl; simp only [PhiW] at d0; refine ⟨?_⟩; simp only [fillR, Act.put, sA, sB, sC, Nat.zero_add, Nat.reduceAdd, d0] at hK ⊢; go_simp; with_reducible refine hK _ _ (Below.refl _ _) (hS.step (Below.refl _ _) 11 (by decide)) ?_
            exact rfl
          ·intro vs L W hS hall hv; have v11 := hv 11 (by simp); simp only [PhiW] at v11; have hbwW := hbw12.trans (hS.be.mono hD0); clear hv hS hall q4 q5 hownx hown12 hb412 hbw12 hx12 hra12 hbl12 hD12 hu12 hrs hct hcs hra HFE; simp only [fillR, Act.put, sA, sB, sC, Nat.zero_add, Nat.reduceAdd, v11]; go_wp2_with fail
           (try rw [Exit.noGoto_ret])
           go_ret2
           exact ⟨_, _, [], rfl, HP, World.ownsRow_nil _ _ _ _, hbwW⟩
      ·obtain rfl : m = s.k := by omega
       have HT : Hid (TB (name, s.rs) = (1, 0)) := by
        show _ = _; rw [← HTS.out, List.drop_of_length_le (by have := hrs.2.1; omega)]; rfl
       clear hm hmj; have hbA := bA wr (.cells #[.int .i64 1] 3); have howA := own_below hownx hbA; have hb4A := Below.tr hb4x hbA; have hszA := hb4A.size
       have hrdA : Rd (wr.alloc (.cells #[.int .i64 1] 3)) (some ⟨wr.heap.size, 0, none⟩) [.int .i64 1] := by
        have h := Rd.fresh wr 3 [.int .i64 1]
        rwa [show wr.heap.size = wr.heap.size by simp] at h
       go_wp2_with (first | (at_builtin; go_loud (refine wpList_append_any _ rfl (.tmp 94) (.tmp 95) _ rfl w4.heap.size 3 ii _ 1 8 Try.underlying35 hi0 hz0 hz1 hz2 rfl (by omega) _ i _ rfl howA _ 1 1 [.int .i64 1] rfl rfl hrdA (by simp [Value.oneCell']) (by simp only [maxLen]; omega) (by omega) hszA ?_); intro v1 w11 hown1 hg1 hat1))
       have hrow := hown1; rw [take_map (f := fun x => intV (TB x).1) HX.out (by show intV (TB (name, s.rs)).1 = Value.int .i64 1; rw [HT.out]; rfl)] at hrow; have hb4B := hb4A.grown hg1 hszA (own_block_ge howA); have HZ2 := first_zero (TB := TB) HZ.out HX.out (by rw [HT.out])
       go_roundg (G - 1)
       case measure => omega
       case rel => exact ⟨i + 1, by go_num, by omega, hrow, HZ2, hb4B⟩
    ·obtain rfl : kt = i := by omega
     have HT : Hid (xs.take kt = xs) := by
      show _ = _; exact List.take_of_length_le (by rw [HXS.out]; simp [HXL.out])
     have HZ2 : Hid (∀ x ∈ xs, (oneC Lz ps Lf a b x).2 = 0) := by
      intro x hx; obtain ⟨j, hj⟩ := List.getElem?_of_mem hx; have hjl := (List.getElem?_eq_some_iff.1 hj).1; have hxl : xs.length ≤ kt := by rw [HXS.out]; simp [HXL.out]
      have := HZ.out j x (by omega) hj; rw [HTB.out] at this; exact this
     rw [HT.out] at hown; have HP : Hid (BuildQ kl kt kt l ps Lf names rows (Nm.lb a) (Nm.lb (Nm.dn b)) 0 (xs.map fun x => (TB x).1)) := .inr (.inr ⟨HFIT.out, a, b, rfl, rfl, ga, by rw [← HLz.out, ← HXS.out]; exact (fbad_none HZ2.out).symm, by rw [if_pos rfl, ← HLz.out, ← HXS.out, HTB.out]⟩); have hxl : (xs.map fun x => (TB x).1).length = kt := by rw [List.length_map, HXS.out]; simp [HXL.out]
     obtain ⟨Ap, cp, rfl⟩ := own_shp hown; go_wp2_with fail
     (try rw [Exit.noGoto_ret])
     go_ret2
     refine ⟨_, _, _, rfl, HP, ?_, Below.tr hbw4 hbe⟩; rw [hxl, List.map_map]; exact own_mono hown hbw4.size
  ·have h1 : (E != 0) = true := by simpa using hE
   have HP : Hid (BuildQ kl kt kt l ps Lf names rows L1 L2 E []) := .inr (.inl ⟨HFIT.out, by rw [← HV.out]; exact hE, HV.out, rfl⟩); go_wp2_with fail
   (try rw [Exit.noGoto_ret])
   go_ret2
   exact ⟨_, _, [], rfl, HP, World.ownsRow_nil _ _ _ _, hbw3⟩
 ·have h0 : (er != 0) = true := by simpa using he
  have HP : Hid (BuildQ kl ks kt l ps Lf names rows L1 L2 er []) := .inl ⟨by rw [← HE.out]; exact he, HE.out, rfl⟩; go_wp2_with fail
  (try rw [Exit.noGoto_ret])
  go_ret2
  exact ⟨_, _, [], rfl, HP, World.ownsRow_nil _ _ _ _, hbw2⟩
end Go.Proofs.Yticobffjnjbjiaa
