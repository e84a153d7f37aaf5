/- Adding piece by piece is adding at once. -/
import Derived.Test.YtafgbmeibnhapaaDoorSumSum
namespace Go.Proofs.YtafgbmeibnhapaaDoor
set_option linter.unusedVariables false
set_option linter.unusedSimpArgs false

theorem extract_extract (x : ByteArray) (i j n : Nat) (h : i + j + n ≤ x.size) : (x.extract i x.size).extract j (j + n) = x.extract (i + j) (i + j + n) := by
  apply bs_ext
  simp only [toList_extract, List.drop_take, List.take_take, List.drop_drop]
  congr 1
  omega
theorem extract_pre (x y : ByteArray) (i n : Nat) (h : i + n ≤ x.size) : (x ++ y).extract i (i + n) = x.extract i (i + n) := by
  apply bs_ext
  simp only [toList_extract, toList_append]
  rw [List.drop_append_of_le_length (by rw [toList_length]; omega), List.take_append_of_le_length (by simp [toList_length]; omega)]
theorem blkN_pre (h : Hd) (x y : ByteArray) : ∀ n, 64 * n ≤ x.size → blkN h (x ++ y) n = blkN h x n
  | 0, _ => rfl
  | n + 1, hn => by rw [blkN, blkN, blkN_pre h x y n (by omega), extract_pre x y (64 * n) 64 (by omega)]
theorem blkN_more (h : Hd) (x : ByteArray) (n : Nat) : ∀ m, 64 * (n + m) ≤ x.size → blkN (blkN h x n) (x.extract (64 * n) x.size) m = blkN h x (n + m)
  | 0, _ => rfl
  | m + 1, hm => by
    rw [blkN, blkN_more h x n m (by omega), extract_extract x (64 * n) (64 * m) 64 (by omega)]
    show _ = blockF (blkN h x (n + m)) (x.extract (64 * (n + m)) (64 * (n + m) + 64))
    rw [show 64 * n + 64 * m = 64 * (n + m) by omega]
theorem append_tail (x y : ByteArray) (i : Nat) (h : i ≤ x.size) : x.extract i x.size ++ y = (x ++ y).extract i (x ++ y).size := by
  apply bs_ext
  simp only [toList_append, toList_drop]
  rw [List.drop_append_of_le_length (by rw [toList_length]; omega)]
theorem tail_tail (x : ByteArray) (i j : Nat) (h : i ≤ x.size) : (x.extract i x.size).extract j (x.extract i x.size).size = x.extract (i + j) x.size := by
  apply bs_ext
  simp only [toList_drop, List.drop_drop]
theorem addF_two (s : St) (a b : ByteArray) : addF (addF s a) b = addF s (a ++ b) := by
  obtain ⟨x, hx⟩ : ∃ x, x = s.rest ++ a := ⟨_, rfl⟩
  obtain ⟨n, hn⟩ : ∃ n, n = x.size / 64 := ⟨_, rfl⟩
  have e1 : addF s a = ⟨blkN s.heads x n, x.extract (64 * n) x.size, s.many + a.size⟩ := by rw [hn, hx]; rfl
  have hassoc : s.rest ++ (a ++ b) = x ++ b := by rw [hx]; exact bs_ext (by simp [toList_append])
  have hle : 64 * n ≤ x.size := by omega
  have ht : x.extract (64 * n) x.size ++ b = (x ++ b).extract (64 * n) (x ++ b).size := append_tail x b _ hle
  have hsz : (x ++ b).size = x.size + b.size := ByteArray.size_append
  have hts : ((x ++ b).extract (64 * n) (x ++ b).size).size = (x ++ b).size - 64 * n := extract_size' _ _ (by omega)
  have hq : ((x ++ b).size - 64 * n) / 64 = (x ++ b).size / 64 - n := by omega
  rw [e1]
  show (⟨blkN (blkN s.heads x n) (x.extract (64 * n) x.size ++ b) ((x.extract (64 * n) x.size ++ b).size / 64), (x.extract (64 * n) x.size ++ b).extract (64 * ((x.extract (64 * n) x.size ++ b).size / 64)) (x.extract (64 * n) x.size ++ b).size, s.many + a.size + b.size⟩ : St) =
    ⟨blkN s.heads (s.rest ++ (a ++ b)) ((s.rest ++ (a ++ b)).size / 64), (s.rest ++ (a ++ b)).extract (64 * ((s.rest ++ (a ++ b)).size / 64)) (s.rest ++ (a ++ b)).size, s.many + (a ++ b).size⟩
  rw [hassoc, ht, ← blkN_pre s.heads x b n hle, hts, hq, blkN_more _ _ n _ (by omega), ← hts, tail_tail _ _ _ (by omega)]
  have h1 : n + ((x ++ b).size / 64 - n) = (x ++ b).size / 64 := by omega
  have h2 : 64 * n + 64 * ((x ++ b).size / 64 - n) = 64 * ((x ++ b).size / 64) := by omega
  have h3 : s.many + (a.size : Int) + b.size = s.many + ((a ++ b).size : Int) := by rw [show (a ++ b).size = a.size + b.size from ByteArray.size_append]; omega
  rw [h1, h2, h3]
end Go.Proofs.YtafgbmeibnhapaaDoor
