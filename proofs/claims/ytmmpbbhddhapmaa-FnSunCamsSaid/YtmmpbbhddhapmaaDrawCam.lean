/- The draw of a cam of the sun. No conditions but that the bytes lie apart from the source. -/
import Derived.Test.YtmmpbbhddhapmaaSrcOwn
namespace Go.Proofs.Ytmmpbbhddhapmaa
open Go.RowKit
set_option linter.unusedVariables false
set_option linter.unusedSimpArgs false
theorem Own.cut {w : World} {base n m c : Nat} {A : Option Addr} {zs : List Int} (h : Own w base A n c zs) (hm : m ≤ n) (h0 : 0 < n) : Own w base A m c (zs.take m) := by
  have hl := h.len
  refine ⟨by simp; omega, ?_⟩
  rcases h.2 with ⟨e, _⟩ | ⟨g, cap, cur, e, hb, hh, h1, h2, h3, h4⟩
  · injection e with e1 e2; omega
  · injection e with e1 e2 e3
    subst e1 e3
    refine .inr ⟨g, c, cur, rfl, hb, hh, by omega, h2, h3, ?_⟩
    rw [List.map_take, ← h4, List.take_take, Nat.mul_one, Nat.mul_one, Nat.min_eq_left hm]
theorem Own.cap {w : World} {base n c : Nat} {A : Option Addr} {zs : List Int} (h : Own w base A n c zs) : n ≤ c ∧ c ≤ 9223372036854775807 := by
  rcases h.2 with ⟨e, h0⟩ | ⟨g, cap, cur, e, hb, hh, h1, h2, h3, h4⟩
  · injection e with e1 e2 e3; omega
  · injection e with e1 e2 e3
    subst e3
    exact ⟨h1, by unfold maxLen at h2; omega⟩
/-- what is known of a cam's draw: the source, the two boxes and the steps so far -/
def CamSt (w wr : World) (g : Nat) (A : Option Addr) (n c : Nat) (K : Int) (L : Option Addr) (m d : Nat) (zs : List Int) : Prop :=
  Src wr g A n c K ∧ w.grownBy wr (some g) ∧ wr.cell? ⟨w.heap.size + 1, 0, none⟩ = some (.slice L m d) ∧ (∀ o, wr.frozen? ⟨w.heap.size + 1, o, none⟩ = false) ∧
    wr.cell? ⟨w.heap.size, 0, none⟩ = some (.slice none 0 0) ∧ (∀ o, wr.frozen? ⟨w.heap.size, o, none⟩ = false) ∧ Own wr (w.heap.size + 1 + 1) L m d zs ∧ w.heap.size + 1 < wr.heap.size
theorem CamSt.draw {w wr w1 : World} {g n c m d : Nat} {A L : Option Addr} {K K1 : Int} {zs : List Int} (h : CamSt w wr g A n c K L m d zs) (hg : g < w.heap.size) (hs : Src w1 g A n c K1) (hq : wr.grownBy w1 (some g)) : CamSt w w1 g A n c K1 L m d zs := by
  obtain ⟨h1, h2, h3, h4, h5, h6, h7, h8⟩ := h
  exact ⟨hs, h2.trans hq, hq.cell h3 (by simp; omega), frozen_only hq h8 (by omega) h4, hq.cell h5 (by simp; omega), frozen_only hq (by omega) (by omega) h6, h7.only hq (by omega), Nat.lt_of_lt_of_le h8 hq.size⟩
/-- behind an append whose new element was laid in a box of its own, and the store of the new slice -/
theorem CamSt.app {w wr w1 : World} {g n c m d m' d' : Nat} {A L L' : Option Addr} {K : Int} {zs zs' : List Int} (h : CamSt w wr g A n c K L m d zs) (hg : g < w.heap.size) (o : Obj) (hb : Below (w.heap.size + 1 + 1) (wr.alloc o) w1) (ho : Own w1 (w.heap.size + 1 + 1) L' m' d' zs') :
    CamSt w (w1.setCell ⟨w.heap.size + 1, 0, none⟩ (.slice L' m' d')) g A n c K L' m' d' zs' := by
  obtain ⟨h1, h2, h3, h4, h5, h6, h7, h8⟩ := h
  have hb2 : Below (w.heap.size + 1 + 1) wr w1 := ((Below.refl _ _).alloc (by omega) o).trans hb
  have hz := hb2.size
  have c3 : w1.cell? ⟨w.heap.size + 1, 0, none⟩ = some (.slice L m d) := (hb2.cell (by simp)).trans h3
  have c5 : w1.cell? ⟨w.heap.size, 0, none⟩ = some (.slice none 0 0) := (hb2.cell (by simp; omega)).trans h5
  have f3 : ∀ o, w1.frozen? ⟨w.heap.size + 1, o, none⟩ = false := fun o => (hb2.frozen (by simp)).trans (h4 o)
  have f5 : ∀ o, w1.frozen? ⟨w.heap.size, o, none⟩ = false := fun o => (hb2.frozen (by simp; omega)).trans (h6 o)
  refine ⟨Src.set (h1.belowB hb2 (by omega)) (by simp; omega) _, only_setCell (only_belowB h2 (hb2.mono (by omega))) (.inr (by simp)) _, by simp [go_sem, c3], fun o => by simp [go_sem, f3 o], by simp [go_sem, c5], fun o => by simp [go_sem, f5 o], ho.far (by simp) _, by simp; omega⟩
theorem CamSt.alloc {w wr : World} {g n c m d : Nat} {A L : Option Addr} {K : Int} {zs : List Int} (h : CamSt w wr g A n c K L m d zs) (o : Obj) : CamSt w (wr.alloc o) g A n c K L m d zs := by
  obtain ⟨h1, h2, h3, h4, h5, h6, h7, h8⟩ := h
  have hb : Below wr.heap.size wr (wr.alloc o) := (Below.refl _ _).alloc (Nat.le_refl _) o
  exact ⟨h1.alloc _, only_alloc h2 _, (hb.cell (by simp; omega)).trans h3, fun o => (hb.frozen (by simp; omega)).trans (h4 o), (hb.cell (by simp; omega)).trans h5, fun o => (hb.frozen (by simp; omega)).trans (h6 o), h7.alloc _, by simp; omega⟩
theorem CamSt.drewN {w wr : World} {g n c m d : Nat} {A L : Option Addr} {K : Int} {zs : List Int} (h : CamSt w wr g A n c K L m d zs) (k : Nat) : CamSt w (wr.drewN k) g A n c K L m d zs := by
  obtain ⟨h1, h2, h3, h4, h5, h6, h7, h8⟩ := h
  exact ⟨Src.drewN h1 k, only_drewN h2 k, h3, h4, h5, h6, h7.drewN k, h8⟩
/-- behind the store of a new slice -/
theorem CamSt.put {w wr : World} {g n c m d m' d' : Nat} {A L L' : Option Addr} {K : Int} {zs zs' : List Int} (h : CamSt w wr g A n c K L m d zs) (hg : g < w.heap.size) (ho : Own wr (w.heap.size + 1 + 1) L' m' d' zs') :
    CamSt w (wr.setCell ⟨w.heap.size + 1, 0, none⟩ (.slice L' m' d')) g A n c K L' m' d' zs' := by
  obtain ⟨h1, h2, h3, h4, h5, h6, h7, h8⟩ := h
  exact ⟨Src.set h1 (by simp; omega) _, only_setCell h2 (.inr (by simp)) _, by simp [go_sem, h3], fun o => by simp [go_sem, h4 o], by simp [go_sem, h5], fun o => by simp [go_sem, h6 o], ho.far (by simp) _, by simp; omega⟩
/-- behind the store of a step -/
theorem CamSt.set0 {w wr : World} {g n c m d b : Nat} {A : Option Addr} {K : Int} {zs : List Int} (h : CamSt w wr g A n c K (some ⟨b, 0, none⟩) m d zs) (hg : g < w.heap.size) (hb : w.heap.size + 1 + 1 ≤ b) (x : Int) :
    CamSt w (wr.setCell ⟨b, 0, none⟩ (.int .i64 x)) g A n c K (some ⟨b, 0, none⟩) m d (zs.set 0 x) := by
  obtain ⟨h1, h2, h3, h4, h5, h6, h7, h8⟩ := h
  have hst := (World.ownsRow.stored h7 0 (.int .i64 x)).1
  rw [← List.map_set] at hst
  have d1 : w.heap.size + 1 ≠ b := by omega
  have d2 : w.heap.size ≠ b := by omega
  exact ⟨Src.set h1 (by simp; omega) _, only_setCell h2 (.inr (by simp; omega)) _, by simp [go_sem, h3, d1, d1.symm], fun o => by simp [go_sem, h4 o], by simp [go_sem, h5, d2, d2.symm], fun o => by simp [go_sem, h6 o], hst, by simp; omega⟩
theorem own_some {w : World} {base b n c : Nat} {zs : List Int} (h : Own w base (some ⟨b, 0, none⟩) n c zs) (hn : 0 < n) : ∃ v, w.cell? ⟨b, 0, none⟩ = some v := by
  have := World.ownsRow.cellAt h 0 (by omega)
  rw [this, List.getElem?_map]
  have hl := h.len
  rw [List.getElem?_eq_getElem (by omega)]
  exact ⟨_, rfl⟩
theorem CamSt.app0 {w wr w1 : World} {g n c m d : Nat} {A L : Option Addr} {K : Int} {zs : List Int} (h : CamSt w wr g A n c K L m d zs) {o : Obj} (hb : Below (w.heap.size + 1 + 1) (wr.alloc o) w1) :
    w1.cell? ⟨w.heap.size + 1, 0, none⟩ = some (.slice L m d) ∧ w1.frozen? ⟨w.heap.size + 1, 0, none⟩ = false ∧ w1.cell? ⟨w.heap.size, 0, none⟩ = some (.slice none 0 0) ∧ w1.frozen? ⟨w.heap.size, 0, none⟩ = false := by
  obtain ⟨h1, h2, h3, h4, h5, h6, h7, h8⟩ := h.alloc o
  exact ⟨(hb.cell (by simp)).trans h3, (hb.frozen (by simp)).trans (h4 0), (hb.cell (by simp; omega)).trans h5, (hb.frozen (by simp; omega)).trans (h6 0)⟩
theorem CamSt.more {w wr : World} {g n c m d : Nat} {A L : Option Addr} {K K1 : Int} {zs : List Int} (h : CamSt w wr g A n c K L m d zs) (hK : K ≤ K1) : CamSt w wr g A n c K1 L m d zs := ⟨h.1.more hK, h.2⟩
def lenAt (w : World) (p : Addr) : Nat := match w.cell? p with
  | some (.slice _ m _) => m
  | _ => 0
theorem lenAt_of {w : World} {p : Addr} {L : Option Addr} {m d : Nat} (h : w.cell? p = some (.slice L m d)) : lenAt w p = m := by simp [lenAt, h]
/-- a draw of a cam -/
def DrawnCam (w : World) (g : Nat) (A : Option Addr) (n c : Nat) (K : Int) (e : Ending) (w' : World) : Prop :=
  ∃ (L : Option Addr) (m d : Nat) (zs : List Int), e = .returned (.agg #[.slice L m d]) ∧ m ≤ 100 ∧ Own w' w.heap.size L m d zs ∧ Src w' g A n c K ∧ w.grownBy w' (some g)
theorem CamSt.done {w wr : World} {g n c m d : Nat} {A L : Option Addr} {K K1 : Int} {zs : List Int} (h : CamSt w wr g A n c K L m d zs) (hg : g < w.heap.size) (hm : m ≤ 100) (hK : K ≤ K1) : DrawnCam w g A n c K1 (.returned (.agg #[.slice L m d])) (wr.setCell ⟨w.heap.size, 0, none⟩ (.slice L m d)) := by
  obtain ⟨h1, h2, h3, h4, h5, h6, h7, h8⟩ := h
  exact ⟨L, m, d, zs, rfl, hm, (h7.far (p := ⟨w.heap.size, 0, none⟩) (by simp; omega) _).low (by omega), Src.set (h1.more hK) (by simp; omega) _, only_setCell h2 (.inr (by simp)) _⟩
theorem camSt_start {w : World} {g n c : Nat} {A : Option Addr} {K : Int} (T : TypeId) (h : Src w g A n c K) : CamSt w ((w.alloc (.cells #[.slice none 0 0] T)).alloc (.cells #[.slice none 0 0] T)) g A n c K none 0 0 [] :=
  ⟨(h.alloc _).alloc _, only_alloc (only_alloc (World.grownBy.refl _ _) _) _, by simp [go_sem], fun o => by simp [go_sem], by simp [go_sem], fun o => by simp [go_sem], Own.nil_, by simp⟩
set_option maxHeartbeats 8000000 in
theorem l19DrawCam_any (A : Option Addr) (n c B g : Nat) (K : Int) (w : World) (h : Src w g A n c K) (hb : Byts w B A n) (hBg : B ≤ g) (hBw : B ≤ w.heap.size) (hn : n ≤ 4096) (hK : K ≤ 700000000) :
    Calls Try.prog 51 #[.pointer (some ⟨g, 0, none⟩)] w (DrawnCam w g A n c (K + 60)) := by
  have l0 := h.lt
  have HB0 := Lib.hid hb
  have HBY := Lib.hid (fun (W : World) (hg : w.grownBy W (some g)) => HB0.out.only hBw hg hBg)
  have C0 := Lib.hid (camSt_start 27 h)
  clear h hb
  go_enter Try.func51, Try.ntmps51
  go_wp2_with fail
  go_at_call 53
  refine (pick_any A n c B g K 600 _ C0.out.1 (HBY.out _ C0.out.2.1) hBg hn (by omega) (by omega)).mono ?_
  rintro e w1 ⟨v, ⟨x, rfl, x0, x1⟩, rfl, hs1, hq1⟩
  have C1 := Lib.hid (C0.out.draw l0 hs1 hq1)
  clear hs1 hq1
  go_wp2_with fail
  go_at_call 53
  refine (pick_any A n c B g (K + 2) 14 _ C1.out.1 (HBY.out _ C1.out.2.1) hBg hn (by omega) (by omega)).mono ?_
  rintro e w2 ⟨v, ⟨y, rfl, y0, y1⟩, rfl, hs2, hq2⟩
  have C2 := Lib.hid (C1.out.draw l0 hs2 hq2)
  rw [if_neg (by omega)] at y1
  obtain ⟨y, rfl⟩ := Int.eq_ofNat_of_zero_le y0
  have hk : (2 : Int) + (y : Int) = ((2 + y : Nat) : Int) := by omega
  obtain ⟨k0, hk0⟩ : ∃ k0, 2 + y = k0 := ⟨_, rfl⟩
  have k1 : 2 ≤ k0 := by omega
  have k2 : k0 ≤ 15 := by omega
  clear hs2 hq2
  go_wp2

  go_loopw [4, 5] (fun s t wr => ∃ (j m d : Nat) (a : Int) (L : Option Addr) (zs : List Int), s = .int .i64 a ∧ t = .int .i64 (j : Int) ∧ m + j = k0 ∧ Hid (CamSt w wr g A n c (K + 4 + 2 * (m : Int)) L m d zs)) (fun _ t _ => (intOf t).toNat)
  case atStart => exact ⟨k0, 0, 0, _, none, [], rfl, by subst hk0; first | rfl | go_num | (push_cast; simp [Int.add_comm]; done) | (congr 1; omega), by omega, Lib.hid (by have := C2.out; simpa [Int.add_assoc] using this)⟩
  case round =>
    obtain ⟨j, m, d, a, L, zs, rfl, rfl, hmj, hC⟩ := hrel
    obtain ⟨s1, s2, s3, s4, s5, s6, s7, s8⟩ := hC.out
    have HS1 := Lib.hid s1
    have HO := Lib.hid s7
    have zr := s2.size
    clear s1 s2 s7
    by_cases hj : 0 < j
    · obtain ⟨i, rfl⟩ : ∃ i, j = i + 1 := ⟨j - 1, by omega⟩
      have hj2 : (0 : Int) < ((i + 1 : Nat) : Int) := by omega
      go_wp2_with (first | (at_builtin; refine wpList_app rfl _ _ rfl _ (w.heap.size + 1 + 1) _ _ _ zs rfl (Own.alloc HO.out _) wr.heap.size rfl a (by simp) (by omega) (by simp; omega) ?_; intro L2 d2 w3 ho3 hb3; have c3 : w3.cell? ⟨w.heap.size + 1, 0, none⟩ = some (.slice L m d) := (hb3.cell (by simp)).trans (by simp [go_sem, *]); have f3 : w3.frozen? ⟨w.heap.size + 1, 0, none⟩ = false := (hb3.frozen (by simp)).trans (by simp [go_sem, *]); have HB3 := Lib.hid hb3; have HO3 := Lib.hid ho3; clear hb3 ho3) | fail)
      have C3 := Lib.hid (CamSt.app hC.out l0 _ HB3.out HO3.out)
      go_at_call 53
      refine (pick_any A n c B g (K + 4 + 2 * (m : Int)) 201 _ C3.out.1 (HBY.out _ C3.out.2.1) hBg hn (by omega) (by omega)).mono ?_
      rintro e w4 ⟨v, ⟨u, rfl, u0, u1⟩, rfl, hs4, hq4⟩
      have C4 := Lib.hid (C3.out.draw l0 (hs4.more (L := K + 4 + 2 * ((m + 1 : Nat) : Int)) (by push_cast; omega)) hq4)
      clear hs4 hq4 s3 s4 s5 s6 c3 f3
      go_wp2
      go_roundw
      case rel => exact ⟨i, m + 1, d2, _, L2, _, rfl, by first | rfl | go_num | (simp; done) | (congr 1; omega), by omega, C4⟩
      case measure => first | (simp [intOf]; done) | (simp [intOf]; omega)
    · have hj0 : j = 0 := by omega
      subst hj0
      have hj2 : ¬ ((0 : Int) < ((0 : Nat) : Int)) := by omega
      have hm : m = k0 := by omega
      subst hm
      clear hmj hk hk0
      clear s3 s4 s5 s6 HS1 HO zr
      go_wp2_with fail
      go_at_call 53
      refine (pick_any A n c B g (K + 4 + 2 * (m : Int)) 30 _ hC.out.1 (HBY.out _ hC.out.2.1) hBg hn (by omega) (by omega)).mono ?_
      rintro e w4 ⟨v, ⟨u, rfl, u0, u1⟩, rfl, hs4, hq4⟩
      have C4 := Lib.hid (hC.out.draw l0 hs4 hq4)
      clear hs4 hq4
      obtain ⟨s1, s2, s3, s4, s5, s6, s7, s8⟩ := C4.out
      have hcap := s7.cap
      rcases s7.form with ⟨_, hm0, _⟩ | ⟨gl, rfl, gl1, gl2⟩
      · omega
      clear s1 s2 s7
      have hm15 : m ≤ 15 := by omega
      by_cases e0 : u = 0
      · subst e0
        go_wp2
        (try simp only [Exit.inBlock, Exit.then])
        have C5 := Lib.hid (C4.out.put l0 (C4.out.2.2.2.2.2.2.1.cut (m := 1) (by omega) (by omega)))
        refine bodyPost_ret (v := .agg #[.slice (some ⟨gl, 0, none⟩) 1 d]) ?_ rfl ?_
        · simp [results, Try.results51, go_sem, *]
        · exact C5.out.done l0 (by omega) (by omega)
      have n0 : (u == 0) = false := by simpa using e0
      by_cases e1 : u = 1
      · subst e1
        have C40 := Lib.hid ((C4.out.alloc (.cells #[.int .i64 (-1201), .int .i64 (-1200), .int .i64 1200, .int .i64 1201] 2)).drewN 1)
        go_wp2
        go_region_with ((go_at_call 55; refine (among_any A _ n c B g 4 4 [-1201, -1200, 1200, 1201] (K + 4 + 2 * (m : Int) + 2) _ C40.out.1 (HBY.out _ C40.out.2.1) hBg hn (by omega) ⟨rfl, fun _ => ⟨_, 0, rfl, by simp, fun j hj => by
            match j, hj with
            | 0, _ => simp
            | 1, _ => simp
            | 2, _ => simp
            | 3, _ => simp⟩⟩ (by intro ad h; cases h; first | (simp; done) | (simp; omega)) (by omega) (by omega)).mono ?_; rintro e w5 ⟨v, ⟨x, rfl, hx⟩, rfl, hs5, hq5⟩; clear hx; have C5 := Lib.hid (C40.out.draw l0 hs5 hq5); obtain ⟨t1, t2, t3, t4, t5, t6, t7, t8⟩ := C5.out; obtain ⟨xv, t9⟩ : ∃ xv, w5.cell? ⟨gl, 0, none⟩ = some xv := own_some t7 (by omega); have t10 : w5.frozen? ⟨gl, 0, none⟩ = false := World.ownsRow.frozenAt t7 0; clear t1 t2 t7))
        all_goals
          go_wp2
          (try simp only [Exit.inBlock, Exit.then])
          have C6 := Lib.hid (C5.out.set0 l0 gl1 x)
          refine bodyPost_ret (v := .agg #[.slice (some ⟨gl, 0, none⟩) m d]) ?_ rfl ?_
          · simp [results, Try.results51, go_sem, *]
          · exact C6.out.done l0 (by omega) (by omega)
      have n1 : (u == 1) = false := by simpa using e1
      by_cases e2 : u = 2
      · subst e2
        clear s3 s4 s5 s6 s8 n0 n1
        go_wp2
        go_loopw [] (fun wr => ∃ (m d : Nat) (L : Option Addr) (zs : List Int), m ≤ 73 ∧ Hid (CamSt w wr g A n c (K + 40) L m d zs)) (fun wr => 73 - lenAt wr ⟨w.heap.size + 1, 0, none⟩)
        case atStart => exact ⟨m, d, some ⟨gl, 0, none⟩, zs, by omega, Lib.hid (C4.out.more (by omega))⟩
        case round =>
          clear C4 hC hcap gl1 gl2 hm15 x0 x1 C0 C1 C2 k1 k2
          obtain ⟨j, e, L, zs, hj73, hD⟩ := hrel
          obtain ⟨s1, s2, s3, s4, s5, s6, s7, s8⟩ := hD.out
          have HO := Lib.hid s7
          have hl9 := lenAt_of s3
          have zr := s2.size
          have hcap := s7.cap
          clear s1 s2 s7
          by_cases hlt : j < 73
          · have hlt2 : ((j : Nat) : Int) < 73 := by omega
            go_wp2_with (first | (at_builtin; refine wpList_app rfl _ _ rfl _ (w.heap.size + 1 + 1) _ _ _ zs rfl (Own.alloc HO.out _) wr.heap.size rfl 5 (by simp) (by omega) (by simp; omega) ?_; intro L2 d2 w3 ho3 hb3; obtain ⟨c3, f3, c30, f30⟩ := hD.out.app0 hb3; have HB3 := Lib.hid hb3; have HO3 := Lib.hid ho3; clear hb3 ho3) | fail)
            have C3 := Lib.hid (CamSt.app hD.out l0 _ HB3.out HO3.out)
            clear s3 s4 s5 s6 c3 f3 c30 f30
            go_roundw
            case rel => exact ⟨j + 1, d2, L2, _, by omega, C3⟩
            case measure => rw [hl9, lenAt_of C3.out.2.2.1]; omega
          · have hlt2 : ¬ ((j : Nat) : Int) < 73 := by omega
            go_wp2_with fail
            go_at_call 54
            refine (one_any A n c B g (K + 40) 2 _ hD.out.1 (HBY.out _ hD.out.2.1) hBg hn (by omega) (by omega)).mono ?_
            rintro e7 w7 ⟨v, ⟨b, rfl⟩, rfl, hs7, hq7⟩
            have C7 := Lib.hid (hD.out.draw l0 hs7 hq7)
            clear hs7 hq7 s3 s4 s5 s6 s8 HO zr hl9
            obtain ⟨s1, s2, s3, s4, s5, s6, s7, s8⟩ := C7.out
            have HO := Lib.hid s7
            have zr := s2.size
            clear s1 s2 s7
            cases b
            · go_wp2
              (try simp only [Exit.inBlock, Exit.then])
              refine bodyPost_ret (v := .agg #[.slice L j e]) ?_ rfl ?_
              · simp [results, Try.results51, go_sem, *]
              · exact C7.out.done l0 (by omega) (by omega)
            · go_wp2_with (first | (at_builtin; refine wpList_app rfl _ _ rfl _ (w.heap.size + 1 + 1) _ _ _ zs rfl (Own.alloc HO.out _) w7.heap.size rfl 5 (by simp) (by omega) (by simp; omega) ?_; intro L2 d2 w3 ho3 hb3; obtain ⟨c3, f3, c30, f30⟩ := C7.out.app0 hb3; have HB3 := Lib.hid hb3; have HO3 := Lib.hid ho3; clear hb3 ho3) | fail)
              have C8 := Lib.hid (CamSt.app C7.out l0 _ HB3.out HO3.out)
              go_wp2
              (try simp only [Exit.inBlock, Exit.then])
              refine bodyPost_ret (v := .agg #[.slice L2 (j + 1) d2]) ?_ rfl ?_
              · simp [results, Try.results51, go_sem, *]
              · exact C8.out.done l0 (by omega) (by omega)
      have n2 : (u == 2) = false := by simpa using e2
      go_wp2
      (try simp only [Exit.inBlock, Exit.then])
      refine bodyPost_ret (v := .agg #[.slice (some ⟨gl, 0, none⟩) m d]) ?_ rfl ?_
      · simp [results, Try.results51, go_sem, *]
      · exact C4.out.done l0 (by omega) (by omega)
end Go.Proofs.Ytmmpbbhddhapmaa
