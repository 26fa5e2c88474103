/- demux: the law's known. -/
import Derived.Test.YtpngjokjjpdboaaDmx8
namespace Go.Proofs.Ytpngjokjjpdboaa
open Go.RowKit
set_option linter.unusedVariables false

def cz (j : Nat) : List Int := [(j : Int), 0, 0, 0, 0, 0, 0, 0]
def psK (i : Nat) : List (List Int × Int) := (List.range i).map fun j => (cz j, (j : Int))
theorem cz_inj {i j : Nat} (h : cz i = cz j) : i = j := by unfold cz at h; injection h with h; omega
theorem cz_wf {j : Nat} (h : j < 256) : ∀ x ∈ cz j, (Lit.int .u8 x).wf = true := by
  intro x hx
  simp only [cz, List.mem_cons, List.not_mem_nil, or_false] at hx
  rcases hx with rfl | rfl | rfl | rfl | rfl | rfl | rfl | rfl
  · exact wf_u8_of (by omega) (by omega)
  all_goals decide
theorem psK_mem (i : Nat) (c : List Int) (n : Int) : (c, n) ∈ psK i ↔ ∃ j, j < i ∧ c = cz j ∧ n = j := by
  unfold psK
  rw [List.mem_map]
  constructor
  · rintro ⟨j, hj, he⟩
    injection he with h1 h2
    exact ⟨j, List.mem_range.1 hj, h1.symm, h2.symm⟩
  · rintro ⟨j, hj, h1, h2⟩
    exact ⟨j, List.mem_range.2 hj, by rw [h1, h2]⟩
theorem nodup_map_inj {α β : Type} {f : α → β} (hf : ∀ a b, f a = f b → a = b) : ∀ {l : List α}, l.Nodup → (l.map f).Nodup
  | [], _ => by simp
  | x :: l, h => by
    rw [List.nodup_cons] at h
    rw [List.map_cons, List.nodup_cons]
    refine ⟨fun hm => ?_, nodup_map_inj hf h.2⟩
    obtain ⟨y, hy, he⟩ := List.mem_map.1 hm
    rw [hf _ _ he] at hy; exact h.1 hy
theorem psK_nd (i : Nat) : ((psK i).map (·.1)).Nodup := by
  unfold psK
  rw [List.map_map]
  exact nodup_map_inj (fun a b h => cz_inj h) (List.nodup_range)
theorem psK_put (i : Nat) : PutTo (psK i) (cz i) i (psK (i + 1)) := by
  refine ⟨psK_nd _, fun c n => ?_⟩
  rw [psK_mem]
  split
  · rename_i hc
    subst hc
    constructor
    · rintro ⟨j, hj, h1, h2⟩; rw [h2, ← cz_inj h1]
    · rintro rfl; exact ⟨i, by omega, rfl, rfl⟩
  · rename_i hc
    rw [psK_mem]
    constructor
    · rintro ⟨j, hj, h1, h2⟩
      refine ⟨j, ?_, h1, h2⟩
      rcases Nat.lt_or_ge j i with h | h
      · exact h
      · obtain rfl : j = i := by omega
        exact absurd h1 hc
    · rintro ⟨j, hj, h1, h2⟩; exact ⟨j, by omega, h1, h2⟩
theorem psK_no (i : Nat) (n : Int) : (cz i, n) ∉ psK i := by
  rw [psK_mem]
  rintro ⟨j, hj, h1, h2⟩
  have := cz_inj h1
  omega
theorem psK_len (i : Nat) : (psK i).length = i := by simp [psK]

set_option maxRecDepth 100000 in
set_option maxHeartbeats 4000000 in
theorem known23_any (w : World) : Makes Try.prog 15 #[] w (.bool true) := by
  have HNW := Lib.hid (mnew_any w 1 (by omega))
  rw [show plc 1 = 8 by decide] at HNW
  go_enter Try.func15, Try.ntmps15
  go_wp2_with fail
  refine Calls.mono HNW.out ?_
  rintro e w1 ⟨hb, p, g, rfl, hp, hg, hM⟩
  have HB := Lib.hid hb; have HM := Lib.hid hM; have HP := Lib.hid hp; have HG := Lib.hid hg
  clear hb hM hp hg HNW
  go_wp2_with fail
  refine Calls.mono (mplaces_any _ 8 p g _ HM.out) ?_
  rintro e wq ⟨rfl, rfl⟩
  have HD : Hid (Calls Try.prog 16 #[.pointer (some ⟨p, 0, none⟩), .agg #[.int .u8 1, .int .u8 0, .int .u8 0, .int .u8 0, .int .u8 0, .int .u8 0, .int .u8 0, .int .u8 0]] w1 _) := Lib.hid (mdrop_any w1 8 p g [] (cz 1) HM.out rfl (cz_wf (by omega)))
  go_wp2_with fail
  refine Calls.mono HD.out ?_
  clear HD
  rintro e w2 ⟨h2, ⟨_, rfl, hM2⟩ | ⟨⟨m, hm⟩, _⟩⟩
  rotate_left
  · cases hm
  replace HB := Lib.hid (Two.low HB.out HB.out.size h2 HP.out HG.out); replace HM := Lib.hid hM2
  clear h2 hM2
  go_wp2_with fail
  go_loopw [2] (fun s wr => ∃ i : Nat, s = .int .i64 i ∧ i ≤ 7 ∧ Hid (Below w.heap.size w wr) ∧ Hid (Mp wr 8 p g (psK (min i 6)))) (fun s _ => 7 - (intOf s).toNat)
  case atStart => exact ⟨0, rfl, by omega, HB, HM⟩
  case round =>
    clear HB HM
    obtain ⟨i, rfl, hi, HB, HM⟩ := hrel
    by_cases hlt : i < 7
    · have HPU : Hid (Calls Try.prog 13 #[.pointer (some ⟨p, 0, none⟩), .agg #[.int .u8 (i : Int), .int .u8 0, .int .u8 0, .int .u8 0, .int .u8 0, .int .u8 0, .int .u8 0, .int .u8 0], .int .i64 (i : Int)] wr _) := Lib.hid (mput_any wr 8 p g (psK (min i 6)) (cz i) i HM.out rfl (cz_wf (by omega)) (by omega))
      have HLT := Lib.hid hlt
      go_wp2_with fail
      refine Calls.mono HPU.out ?_
      clear HPU
      rintro e w3 ⟨h2, hcase⟩
      have HB2 := Lib.hid (Two.low HB.out HB.out.size h2 HP.out HG.out)
      clear h2 HB HM
      by_cases h6 : i < 6
      · have hmin : min i 6 = i := by omega
        rw [hmin] at hcase
        rcases hcase with ⟨_, hf, _⟩ | ⟨_, rfl, hM3⟩
        · rw [psK_len] at hf; omega
        · have HM3 : Hid (Mp w3 8 p g (psK (min (i + 1) 6))) := Lib.hid (by rw [show min (i + 1) 6 = i + 1 by omega]; exact hM3 _ (psK_put i))
          clear hM3 hmin
          have hd : decide ((i : Int) < 6) = true := by simp; omega
          go_wp2_with fail
          exact ⟨⟨i + 1, by go_num, by omega, HB2, HM3⟩, by simp [intOf]; omega⟩
      · obtain rfl : i = 6 := by omega
        rcases hcase with ⟨_, _, rfl, hM3⟩ | ⟨hor, _, _⟩
        · have HM3 : Hid (Mp w3 8 p g (psK (min (6 + 1) 6))) := Lib.hid hM3
          clear hM3
          go_wp2_with fail
          go_roundw
          case rel => exact ⟨7, by go_num, by omega, HB2, HM3⟩
          case measure => simp [intOf]
        · exfalso
          rcases hor with ⟨m, hm⟩ | hr
          · exact psK_no 6 m hm
          · rw [psK_len] at hr; omega
    · obtain rfl : i = 7 := by omega
      have HGE : Hid (Calls Try.prog 17 #[.pointer (some ⟨p, 0, none⟩), .agg #[.int .u8 5, .int .u8 0, .int .u8 0, .int .u8 0, .int .u8 0, .int .u8 0, .int .u8 0, .int .u8 0]] wr _) := Lib.hid (mget_any wr 8 p g (psK 6) (cz 5) HM.out rfl (cz_wf (by omega)))
      go_wp2_with fail
      refine Calls.mono HGE.out ?_
      clear HGE
      rintro e w4 ⟨hb, ⟨n, hn, rfl⟩ | ⟨hno, _⟩⟩
      · obtain ⟨j, _, h1, rfl⟩ := (psK_mem _ _ _).1 hn
        obtain rfl := cz_inj h1
        have HB2 := Lib.hid (bl_next HB.out HB.out.size hb); have HM2 := Lib.hid (HM.out.below hb)
        clear hb hn h1
        go_wp2_with fail
        refine Calls.mono (mlen_any _ 8 p g _ HM2.out) ?_
        rintro e wq ⟨rfl, rfl⟩
        rw [show (psK (min 7 6)).length = 6 by rfl]
        go_wp2_with fail
        go_ret
        exact ⟨rfl, HB2.out⟩
      · exact absurd ((psK_mem _ _ _).2 ⟨5, by omega, rfl, rfl⟩) (hno 5)
end Go.Proofs.Ytpngjokjjpdboaa
