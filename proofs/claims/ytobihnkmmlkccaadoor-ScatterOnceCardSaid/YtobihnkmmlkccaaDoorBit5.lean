/- The reference's decimal digits. -/
import Derived.Test.YtobihnkmmlkccaaDoorBit4
import Derived.Test.YtobihnkmmlkccaaDoorStr
namespace Go.Proofs.YtobihnkmmlkccaaDoor
open Go.RowKit Go.Mk Go.Bit Go.Sha
def strLen : Value → Nat
  | .string s => s.size
  | _ => 0
theorem digN_succ (f : Nat) (a : List Bool) (s : List UInt8) : digN (f + 1) a s = if a = [] then s else digN f (divB a ten).1 (UInt8.ofNat (48 + valN (divB a ten).2 (divB a ten).2.length 0) :: s) := rfl
set_option maxRecDepth 20000 in
set_option maxHeartbeats 4000000 in
theorem digits_any (v : Value) (a : List Bool) (f : Nat) (w : World) (hf : f ≤ 100) (hl : a.length ≤ 1000) (hne : a ≠ []) (he : ends f a = true) (hr : RdT w v a) : Calls Tryd.prog 14 #[v] w fun e w' => e = .returned (.string ⟨(digN f a []).toArray⟩) ∧ Kept no w w' := by
  obtain ⟨av, cv, rfl, _, _⟩ := hr.shape
  obtain ⟨res, hres⟩ : ∃ res, digN f a [] = res := ⟨_, rfl⟩
  rw [hres]
  obtain ⟨la, hla⟩ : ∃ l, a.length = l := ⟨_, rfl⟩
  rw [hla] at hr hl ⊢
  have hla0 : (la : Int) ≠ 0 := by
    intro h; exact hne (List.eq_nil_of_length_eq_zero (by omega))
  have hlb : ((la : Int) == 0) = false := by simpa using hla0
  replace hla := hid hla
  replace hr := hid hr
  replace hres := hid hres
  replace he := hid he
  clear hne hla0
  go_enter Tryd.func14, Tryd.ntmps14
  go_wp2
  go_loopw [0, 3] (fun va s wr => ∃ (f' : Nat) (l : List UInt8) (av : Option Addr) (la cv : Nat), f' + l.length = f ∧ la ≤ 1000 ∧ va = .slice av la cv ∧ s = .string ⟨l.toArray⟩ ∧ Hd (∃ a' : List Bool, a'.length = la ∧ digN f' a' l = res ∧ ends f' a' = true ∧ RdT wr (.slice av la cv) a') ∧ Hd (Kept no w wr)) (fun _ s _ => f - strLen s)
  case atStart => exact ⟨f, [], av, la, cv, by simp, hl, rfl, rfl, ⟨a, hla.out, hres.out, he.out, hr.out⟩, ⟨Kept.refl _ _⟩⟩
  case round =>
    clear hlb hl hr hres he hla
    obtain ⟨f', l, av, la, cv, hfl, hla1, rfl, rfl, hA, hK⟩ := hrel
    obtain ⟨a', ha1, ha2, ha3, ha4⟩ := hA.out
    clear hA
    by_cases h0 : la = 0
    · subst h0
      have hnil : a' = [] := List.eq_nil_of_length_eq_zero ha1
      have hv : Hd (l = res) := ⟨by rw [← ha2, hnil]; cases f' <;> simp [digN]⟩
      clear ha1 ha2 ha3 ha4 hnil hfl
      go_wp2
      go_ret
      exact ⟨by rw [← hv.out]; rfl, hK.out⟩
    · have hpos : (0 : Int) < (la : Int) := by omega
      have hne' : a' ≠ [] := by intro h; subst h; exact h0 (by simpa using ha1.symm)
      obtain ⟨f2, rfl⟩ : ∃ g, f' = g + 1 := by
        cases f' with
        | zero => unfold ends at ha3; cases a' with
          | nil => exact absurd rfl hne'
          | cons _ _ => simp at ha3
        | succ g => exact ⟨g, rfl⟩
      have hem : a'.isEmpty = false := by cases a' with
        | nil => exact absurd rfl hne'
        | cons _ _ => rfl
      have hends : (divB a' ten).2.length ≤ 10 ∧ ends f2 (divB a' ten).1 = true := by
        unfold ends at ha3
        rw [hem, Bool.false_or, Bool.and_eq_true, decide_eq_true_eq] at ha3
        exact ha3
      have hdig : digN f2 (divB a' ten).1 (UInt8.ofNat (48 + valN (divB a' ten).2 (divB a' ten).2.length 0) :: l) = res := by
        rw [← ha2, digN_succ, if_neg hne']
      have hq1000 : (divB a' ten).1.length ≤ 1000 := by
        have := trimB_length (divN a' ten a'.length).1
        rw [divN_q] at this
        show (trimB (divN a' ten a'.length).1).length ≤ 1000
        omega
      have HS := hid (small_any 10 wr (by omega))
      rw [small_ten] at HS
      have H10 : ∀ W, Kept no wr W → ∀ vt, RdT W vt ten → _ := fun W k vt ht => div_any _ vt a' ten W (by omega) (by decide) (ha4.kept k) ht
      replace H10 := hid H10
      replace ha4 := hid ha4
      generalize (divB a' ten).2 = r at hends hdig H10
      generalize (divB a' ten).1 = qq at hends hdig H10 hq1000
      obtain ⟨hr10, hen⟩ := hends
      replace hdig := hid hdig
      replace hen := hid hen
      clear ha1 ha2 ha3 hne' hem h0
      go_wp2_with fail
      refine HS.out.mono ?_
      rintro e w2 ⟨vt, rfl, o2⟩
      have HD := hid (H10.out w2 o2.kept vt o2.rd)
      have K2 := hid (hK.out.trans' o2.kept)
      clear HS H10 o2
      go_wp2_with fail
      refine HD.out.mono ?_
      rintro e w3 ⟨vq, vr, rfl, o3, r3⟩
      obtain ⟨aq, cq, rfl, _, _⟩ := o3.rd.shape
      obtain ⟨ar, cr, rfl, _, _⟩ := r3.shape
      obtain ⟨lr, hlr⟩ : ∃ l, r.length = l := ⟨_, rfl⟩
      obtain ⟨lq, hlq⟩ : ∃ l, qq.length = l := ⟨_, rfl⟩
      have K3 := hid (K2.out.trans' o3.kept)
      have Q3 := hid o3.rd
      rw [hlr] at hdig hr10 r3 ⊢
      rw [hlq] at hq1000 Q3 ⊢
      replace hlr := hid hlr
      replace hlq := hid hlq
      replace r3 := hid r3
      obtain ⟨V, hV⟩ : ∃ V, valN r lr 0 = V := ⟨_, rfl⟩
      rw [hV] at hdig
      replace hV := hid hV
      have hlrw : IntKind.i64.wrap ((lr : Int) - 1) = (lr : Int) - 1 := IntWalk.i64_in _ (by omega)
      clear o3 HD K2 hK
      go_wp2
      go_loopw [6, 7] (fun d i wy => ∃ (j D : Nat), j ≤ lr ∧ i = .int .i64 ((j : Int) - 1) ∧ d = .int .i64 (D : Int) ∧ Hd (valN r j D = V) ∧ Hd (D + 1 ≤ 2 ^ (lr - j)) ∧ wy = w3) (fun _ i _ => (intOf i + 1).toNat)
      case atStart => exact ⟨lr, 0, by omega, rfl, rfl, hV, ⟨by simp⟩, rfl⟩
      case round =>
        obtain ⟨j, D, hj, rfl, rfl, hVj, hD, rfl⟩ := hrel
        have hD' : D ≤ 1023 := by
          have := hD.out
          have h2 : 2 ^ (lr - j) ≤ 2 ^ 10 := Nat.pow_le_pow_right (by omega) (by omega)
          omega
        cases j with
        | zero =>
          obtain rfl : D = V := hVj.out
          have hby : Hd (((48 + (D : Int)) % 256) = ((UInt8.ofNat (48 + D)).toNat : Int)) := ⟨by
            have : (48 + (D : Int)) = ((48 + D : Nat) : Int) := by omega
            rw [this]
            rw [UInt8.toNat_ofNat']; omega⟩
          have hcv : ∀ W : World, (convert 46 9 (.slice (some ⟨W.heap.size, 0, none⟩) 1 1)).run Tryd.prog (W.alloc (.cells #[.int .u8 ((48 + (D : Int)) % 256)] 5)) = .ok (.string ⟨#[UInt8.ofNat (48 + D)]⟩) (W.alloc (.cells #[.int .u8 ((48 + (D : Int)) % 256)] 5)) := fun W =>
            string_of (P := Tryd.prog) _ 46 9 5 Tryd.underlying46 Tryd.underlying5 Tryd.underlying9 (.slice (some ⟨W.heap.size, 0, none⟩) 1 1) [UInt8.ofNat (48 + D)] (by
              have := Rd.new W 5 1 1 [.int .u8 ((48 + (D : Int)) % 256)] rfl (by decide)
              have e : ([UInt8.ofNat (48 + D)].map B) = [.int .u8 ((48 + (D : Int)) % 256)] := by rw [hby.out]; rfl
              rw [e]; exact this)
          have h48 : IntKind.i64.wrap (48 + (D : Int)) = 48 + (D : Int) := IntWalk.i64_in _ (by omega)
          clear hD hV hVj r3
          have K4 := hid (K3.out.alloc (.cells #[.int .u8 ((48 + (D : Int)) % 256)] 5))
          have Q4 := hid (Q3.out.kept ((Kept.refl no wr).alloc (.cells #[.int .u8 ((48 + (D : Int)) % 256)] 5)))
          have hst : Hd ((⟨#[UInt8.ofNat (48 + D)]⟩ : ByteArray) ++ (⟨l.toArray⟩ : ByteArray) = ⟨(UInt8.ofNat (48 + D) :: l).toArray⟩) := ⟨ByteArray.ext (by simp)⟩
          clear K3 Q3 hby hD'
          have hU : UInt8.ofNat (48 + D) = 48 + UInt8.ofNat D := by simp
          have hst2 : Hd ((({ data := #[48 + UInt8.ofNat D] } : ByteArray) ++ ({ data := l.toArray } : ByteArray)) = ⟨(UInt8.ofNat (48 + D) :: l).toArray⟩) := ⟨by rw [← hU]; exact hst.out⟩
          replace hU := hid hU
          clear hst
          have hll : l.length ≤ 100 := by omega
          replace hfl := hid hfl
          go_wp2
          rw [hst2.out]
          refine ⟨⟨f2, UInt8.ofNat (48 + D) :: l, aq, lq, cq, by have := hfl.out; rw [List.length_cons]; omega, hq1000, rfl, rfl, ⟨qq, hlq.out, hdig.out, hen.out, Q4.out⟩, K4⟩, ?_⟩
          show f - (UInt8.ofNat (48 + D) :: l).toArray.size < f - l.toArray.size
          have := hfl.out
          rw [List.size_toArray, List.size_toArray, List.length_cons]
          omega
        | succ j =>
          have e1 : ((j + 1 : Nat) : Int) - 1 = (j : Int) := by omega
          have hj0 : (0 : Int) ≤ (j : Int) := by omega
          have hj1 : (j : Int) < (lr : Int) := by omega
          have hw1 : IntKind.i64.wrap (2 * (D : Int)) = 2 * (D : Int) := IntWalk.i64_in _ (by omega)
          have hw2 : IntKind.i64.wrap (2 * (D : Int) + 1) = 2 * (D : Int) + 1 := IntWalk.i64_in _ (by omega)
          have hp : 2 ^ (lr - j) = 2 ^ (lr - (j + 1)) * 2 := by rw [← Nat.pow_succ]; congr 1; omega
          obtain ⟨b0, o0, rfl, c0⟩ := r3.out.at j (by rw [hlr.out]; omega)
          rw [e1]
          cases hb : at_ r j with
          | true =>
            rw [hb] at c0
            have hV2 : Hd (valN r j (2 * D + 1) = V) := ⟨by have := hVj.out; unfold valN at this; rw [hb, if_pos rfl] at this; exact this⟩
            have hD2 : Hd (2 * D + 1 + 1 ≤ 2 ^ (lr - j)) := ⟨by have := hD.out; rw [hp]; omega⟩
            clear hVj hD hb hp
            go_wp2
            go_roundw
            case rel => exact ⟨j, 2 * D + 1, by omega, rfl, congrArg (Value.int .i64) (by omega), hV2, hD2, trivial⟩
            case measure => simp [intOf]
          | false =>
            rw [hb] at c0
            have hV2 : Hd (valN r j (2 * D) = V) := ⟨by have := hVj.out; unfold valN at this; rw [hb, if_neg (by decide), Nat.add_zero] at this; exact this⟩
            have hD2 : Hd (2 * D + 1 ≤ 2 ^ (lr - j)) := ⟨by have := hD.out; rw [hp]; omega⟩
            clear hVj hD hb hp
            go_wp2
            go_roundw
            case rel => exact ⟨j, 2 * D, by omega, rfl, congrArg (Value.int .i64) (by omega), hV2, hD2, trivial⟩
            case measure => simp [intOf]
end Go.Proofs.YtobihnkmmlkccaaDoor
