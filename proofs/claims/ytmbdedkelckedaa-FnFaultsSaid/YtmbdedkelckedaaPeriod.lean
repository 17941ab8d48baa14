/- The program's period of a cam. Condition: the cam is valid. -/
import Derived.Test.YtmbdedkelckedaaSame
import Derived.Test.YtmbdedkelckedaaCore6
import Derived.BigQuiet
namespace Go.Proofs.Ytmbdedkelckedaa
open Go.RowKit
set_option linter.unusedVariables false
set_option linter.unusedSimpArgs false
theorem Ints.drop {w : World} {B b off n p : Nat} {zs : List Int} (h : Ints w B (some ⟨b, off, none⟩) n zs) (hp : p ≤ n) : Ints w B (some ⟨b, off + p, none⟩) (n - p) (zs.drop p) := by
  have hl := h.len
  refine ⟨by rw [List.length_drop, hl], fun h0 => ?_⟩
  obtain ⟨b', off', e, hb, hc⟩ := h.2 (by omega)
  injection e with e; injection e with e1 e2 _
  subst e1 e2
  refine ⟨_, _, rfl, hb, fun j hj => ?_⟩
  have := hc (p + j) (by omega)
  rw [show off + p + j = off + (p + j) by omega, this]
  congr 2
  rw [getD_of (by omega), getD_of (by rw [List.length_drop]; omega), List.getElem_drop]
theorem Ints.take {w : World} {B n k : Nat} {A : Option Addr} {zs : List Int} (h : Ints w B A n zs) (hk : k ≤ n) : Ints w B A k (zs.take k) := by
  have hl := h.len
  refine ⟨by rw [List.length_take]; omega, fun h0 => ?_⟩
  obtain ⟨b, off, e, hb, hc⟩ := h.2 (by omega)
  refine ⟨b, off, e, hb, fun j hj => ?_⟩
  rw [hc j (by omega)]
  congr 2
  rw [getD_of (by omega), getD_of (by rw [List.length_take]; omega), List.getElem_take]
theorem shift_eq {zs : List Int} {n p : Nat} (hl : zs.length = n) (h : zs.drop p = zs.take (n - p)) : ∀ i, i + p < n → zs.getD i 0 = zs.getD (i + p) 0 := fun i hi => by
  have h1 : (zs.drop p).getD i 0 = zs.getD (i + p) 0 := by rw [getD_of (by rw [List.length_drop]; omega), getD_of (by omega), List.getElem_drop]; congr 1; omega
  have h2 : (zs.take (n - p)).getD i 0 = zs.getD i 0 := by rw [getD_of (by rw [List.length_take]; omega), getD_of (by omega), List.getElem_take]
  rw [← h1, ← h2, h]
set_option maxHeartbeats 4000000 in
theorem CamPeriod_any (A : Option Addr) (n c B : Nat) (zs : List Int) (w : World) (h : Ints w B A n zs) (hB : B ≤ w.heap.size) (hn1 : 1 ≤ n) (hn : n ≤ 260) (hc : n ≤ c) (hc2 : c ≤ 9223372036854775807) (hv : vCam zs = true) :
    Calls Try.prog 24 #[.slice A n c] w fun e w' => ∃ p : Nat, e = .returned (.tuple #[.int .i64 (p : Int), .int .i64 0]) ∧ 1 ≤ p ∧ p ≤ n ∧ (∀ i, i + p < n → zs.getD i 0 = zs.getD (i + p) 0) ∧ ∃ k, w' = w.drewN k := by
  have HL := Lib.hid h.len
  obtain ⟨b, off, rfl, _, _⟩ := h.2 (by omega)
  have H := Lib.hid h
  have cV := fun W (h : Ints W B (some ⟨b, off, none⟩) n zs) => ValidCam_any (some ⟨b, off, none⟩) n c B zs W h (by omega)
  rw [hv] at cV
  have CV := Lib.hid cV
  clear cV hv h
  go_enter Try.func24, Try.ntmps24
  go_wp2_with fail
  go_at_call 56
  refine (CV.out _ H.out).mono ?_
  rintro e w' ⟨rfl, rfl⟩
  go_wp2
  go_loopw [4] (fun t wr => ∃ p : Nat, t = .int .i64 (p : Int) ∧ 1 ≤ p ∧ p ≤ n ∧ Hid (∃ m, wr = w.drewN m) ∧ Hid (Ints wr B (some ⟨b, off, none⟩) n zs)) (fun t _ => n - (intOf t).toNat)
  case atStart => exact ⟨1, rfl, Nat.le_refl _, hn1, Lib.hid ⟨0, rfl⟩, H⟩
  case round =>
    obtain ⟨p, rfl, hp1, hp2, HM, HI⟩ := hrel
    obtain ⟨q, hq⟩ : ∃ q, n - p = q := ⟨_, rfl⟩
    have iq : (n : Int) - (p : Int) = (q : Int) := by omega
    have iq2 : IntKind.i64.wrap ((n : Int) - (p : Int)) = (q : Int) := by rw [iq]; exact IntWalk.i64_in _ (by omega)
    by_cases hlt : p < n
    · have hck : ¬ (c = p) := by omega
      obtain ⟨d, hd⟩ : ∃ d, decide (zs.drop p = zs.take q) = d := ⟨_, rfl⟩
      have CE := Lib.hid (fun (W : World) (hI : Ints W B (some ⟨b, off, none⟩) n zs) => (show Calls Try.prog 57 #[.slice (some ⟨b, off + p, none⟩) q (c - p), .slice (some ⟨b, off, none⟩) q c] W fun e w' => e = .returned (.bool d) ∧ ∃ m, w' = W.drewN m by
        rw [← hd, ← hq]; exact slicesEqual_any _ _ (n - p) (n - p) (c - p) c B B (zs.drop p) (zs.take (n - p)) W (hI.drop hp2) (hI.take (by omega)) (by omega) (by omega)))
      have HD := Lib.hid hd
      have HQ := Lib.hid hq
      clear hd
      cases d
      · go_wp2
        go_quiet ((go_at_call 57; exact quiet_on (CE.out _ (HI.out.drewN _))))
        have HM2 : Hid (∃ m, wr.drewN nq = w.drewN m) := Lib.hid (by obtain ⟨m, hm⟩ := HM.out; obtain ⟨k, hk⟩ := drewN_two w m nq; exact ⟨k, by rw [hm, hk]⟩)
        have HI2 : Hid (Ints (wr.drewN nq) B (some ⟨b, off, none⟩) n zs) := Lib.hid (HI.out.drewN nq)
        obtain ⟨w2, hw2⟩ : ∃ W, wr.drewN nq = W := ⟨_, rfl⟩
        rw [hw2] at HM2 HI2 ⊢
        clear hw2
        go_wp2
        go_roundw
        case rel => exact ⟨p + 1, by go_num, by omega, by omega, HM2, HI2⟩
        case measure => simp [intOf]; omega
      · go_wp2
        go_quiet ((go_at_call 57; exact quiet_on (CE.out _ (HI.out.drewN _))))
        have HM2 : Hid (∃ m, wr.drewN nq = w.drewN m) := Lib.hid (by obtain ⟨m, hm⟩ := HM.out; obtain ⟨k, hk⟩ := drewN_two w m nq; exact ⟨k, by rw [hm, hk]⟩)
        obtain ⟨w2, hw2⟩ : ∃ W, wr.drewN nq = W := ⟨_, rfl⟩
        rw [hw2] at HM2 ⊢
        clear hw2
        go_wp2
        go_ret2
        exact ⟨p, rfl, hp1, hp2, shift_eq HL.out (by have := of_decide_eq_true HD.out; rw [this, HQ.out]), HM2.out⟩
    · have hE : p = n := by omega
      subst hE
      have hq0 : q = 0 := by omega
      subst hq0
      have CE := Lib.hid (fun (W : World) (A1 A2 : Option Addr) (k1 k2 : Nat) => (show Calls Try.prog 57 #[.slice A1 0 k1, .slice A2 0 k2] W fun e w' => e = .returned (.bool true) ∧ ∃ m, w' = W.drewN m from
        slicesEqual_any A1 A2 0 0 k1 k2 0 0 [] [] W ⟨rfl, fun h => absurd h (by omega)⟩ ⟨rfl, fun h => absurd h (by omega)⟩ (by omega) (by omega)))
      clear hq
      by_cases hck : c = p
      · subst hck
        go_wp2
        go_quiet ((go_at_call 57; exact quiet_on (CE.out _ _ _ _ _)))
        have HM2 : Hid (∃ m, wr.drewN nq = w.drewN m) := Lib.hid (by obtain ⟨m, hm⟩ := HM.out; obtain ⟨k, hk⟩ := drewN_two w m nq; exact ⟨k, by rw [hm, hk]⟩)
        obtain ⟨w2, hw2⟩ : ∃ W, wr.drewN nq = W := ⟨_, rfl⟩
        rw [hw2] at HM2 ⊢
        clear hw2
        go_wp2
        go_ret2
        exact ⟨c, rfl, hp1, Nat.le_refl _, fun i hi => absurd hi (by omega), HM2.out⟩
      · go_wp2
        go_quiet ((go_at_call 57; exact quiet_on (CE.out _ _ _ _ _)))
        have HM2 : Hid (∃ m, wr.drewN nq = w.drewN m) := Lib.hid (by obtain ⟨m, hm⟩ := HM.out; obtain ⟨k, hk⟩ := drewN_two w m nq; exact ⟨k, by rw [hm, hk]⟩)
        obtain ⟨w2, hw2⟩ : ∃ W, wr.drewN nq = W := ⟨_, rfl⟩
        rw [hw2] at HM2 ⊢
        clear hw2
        go_wp2
        go_ret2
        exact ⟨p, rfl, hp1, Nat.le_refl _, fun i hi => absurd hi (by omega), HM2.out⟩
end Go.Proofs.Ytmbdedkelckedaa
