/- Bytes as a string. -/
import Derived.Test.YtkdmlakookgolaaBytZ
namespace Go.Proofs.Ytkdmlakookgolaa
open Go.RowKit Go.Mk Go.Mg
theorem push_allB (l : List UInt8) : ∀ s : ByteArray, (l.map fun x => (x.toNat : Int)).foldl (fun r n => r.push (UInt8.ofNat n.toNat)) s = ⟨s.data ++ l.toArray⟩ := by
  induction l with
  | nil => intro s; simp
  | cons x l ih =>
    (intro s); (simp only [List.map_cons, List.foldl_cons, ih])
    simp [ByteArray.push]
theorem string_ofB (w : World) (v : Value) (l : List UInt8) (hr : Rd w 1 v l.length (l.map B8)) : (convert 45 9 v).run Try.prog w = .ok (.string ⟨l.toArray⟩) w := by
  (have hs : Try.prog.underlying 45 = some (.slice 5) := by kernel_rfl); (have he : Try.prog.underlying 5 = some (.int .u8) := by kernel_rfl); (have hd : Try.prog.underlying 9 = some .string := by kernel_rfl); (obtain ⟨_, ao, cap, rfl, _, _, hcap | ⟨b, o, rfl, hc⟩⟩ := hr)
  · (rw [run_convert_bytes_string w _ _ _ _ _ _ hs he hd]); (have : l = [] := List.eq_nil_of_length_eq_zero (by omega)); (subst this)
    cases ao with
    | none => simp [Conv.bytesToString, Sem.run_pure]; rfl
    | some a =>
      rw [run_bytesToString w a _ cap [] (by simp [loadCells, loadCellsFrom])]
      rfl
  · rw [run_convert_bytes_string w _ _ _ _ _ _ hs he hd]
    have h := run_loadCells_list (P := Try.prog) (w := w) ⟨b, o, none⟩ (l.map B8) (fun j u hu => by
      (have := hc j u hu); (unfold Addr.add)
      split
      · rename_i e0; subst e0; simpa using this
      · exact this)
    (rw [List.length_map] at h); (rw [run_bytesToString w ⟨b, o, none⟩ l.length cap (l.map fun x => (x.toNat : Int)) (by rw [h]; simp [B8, Function.comp_def]), push_allB])
    simp
end Go.Proofs.Ytkdmlakookgolaa
