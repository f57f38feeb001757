/-
  Plain facts on sealing: the cipher, the code of a message, packets that are sealed and opened.
-/
import Derived.Test.YtfkeiegajaofdaaDec2
namespace Go.Proofs.Ytfkeiegajaofdaa
open Go.RowKit

def encK (key : Int) (z : List Int) : Nat → List Int
  | 0 => []
  | k + 1 => encK key z k ++ [(z.getD k 0 + khash key [(k : Int)] % 256) % 256]
def decK (key : Int) (z : List Int) : Nat → List Int
  | 0 => []
  | k + 1 => decK key z k ++ [(z.getD k 0 - khash key [(k : Int)] % 256) % 256]
def encL (key : Int) (z : List Int) : List Int := encK key z z.length
def decL (key : Int) (z : List Int) : List Int := decK key z z.length
section
variable {key z v : Int} {zs : List Int} {k n : Nat}
theorem encK_len (key : Int) (zs : List Int) : ∀ k, (encK key zs k).length = k
  | 0 => rfl
  | k + 1 => by simp [encK, encK_len key zs k]
theorem decK_len (key : Int) (zs : List Int) : ∀ k, (decK key zs k).length = k
  | 0 => rfl
  | k + 1 => by simp [decK, decK_len key zs k]
theorem encL_len (key : Int) (zs : List Int) : (encL key zs).length = zs.length := encK_len _ _ _
theorem decL_len (key : Int) (zs : List Int) : (decL key zs).length = zs.length := decK_len _ _ _
theorem encK_ok (key : Int) (zs : List Int) : ∀ k, okz .u8 (encK key zs k)
  | 0 => okz_nil _
  | k + 1 => okz_snoc8 (encK_ok key zs k) (by omega) (by omega)
theorem decK_ok (key : Int) (zs : List Int) : ∀ k, okz .u8 (decK key zs k)
  | 0 => okz_nil _
  | k + 1 => okz_snoc8 (decK_ok key zs k) (by omega) (by omega)
theorem encL_ok (key : Int) (zs : List Int) : okz .u8 (encL key zs) := encK_ok _ _ _
theorem decL_ok (key : Int) (zs : List Int) : okz .u8 (decL key zs) := decK_ok _ _ _
theorem encK_s (h : zs[k]? = some z) : encK key zs (k + 1) = encK key zs k ++ [(z + khash key [(k : Int)] % 256) % 256] := by
  simp only [encK, List.getD_eq_getElem?_getD, h, Option.getD_some]
theorem decK_s (h : zs[k]? = some z) : decK key zs (k + 1) = decK key zs k ++ [(z - khash key [(k : Int)] % 256) % 256] := by
  simp only [decK, List.getD_eq_getElem?_getD, h, Option.getD_some]
theorem mid_get {xs : List Int} (hx : xs.length = k) (h : zs[k]? = some z) : (xs ++ zs.drop k)[k]? = some z := by
  rw [List.getElem?_append_right (by omega), hx, Nat.sub_self, List.getElem?_drop, Nat.add_zero]; exact h
theorem mid_step {f : Int → Value} {xs : List Int} (hx : xs.length = k) (h : zs[k]? = some z) : List.take (0 + Int.toNat ((k : Nat) : Int) * 1) ((xs ++ zs.drop k).map f) ++ [f v] ++ List.drop (0 + Int.toNat ((k : Nat) : Int) * 1 + List.length [f v]) ((xs ++ zs.drop k).map f) = ((xs ++ [v]) ++ zs.drop (k + 1)).map f := by
  have hk := (List.getElem?_eq_some_iff.1 h).1
  rw [off1]
  simp only [List.map_append, List.length_cons, List.length_nil, Nat.zero_add, List.map_cons, List.map_nil]
  rw [List.take_append_of_le_length (by rw [List.length_map]; omega), List.take_of_length_le (by rw [List.length_map]; omega), List.drop_append, List.drop_of_length_le (by rw [List.length_map]; omega), List.length_map, hx, List.nil_append]
  congr 1
  rw [← List.map_drop, List.drop_drop, show k + 1 - k = 1 by omega]
theorem gmod256 (v : Int) : gmod v 256 = v % 256 := if_pos (by decide)
theorem u8_add {a b : Int} : IntKind.wrap .u8 (a + b) = (a + b) % 256 := by rw [IntKind.wrap_u8]
theorem u8_sub {a b : Int} : IntKind.wrap .u8 (a - b) = (a - b) % 256 := by rw [IntKind.wrap_u8]
/-- What is sealed is read again. -/
theorem dec_enc (hz : okz .u8 zs) : decL key (encL key zs) = zs := by
  have hb := okz8 hz
  have key2 : ∀ k, k ≤ zs.length → decK key (encL key zs) k = zs.take k := by
    intro k
    induction k with
    | zero => intro _; rfl
    | succ k ih =>
      intro hk
      obtain ⟨z, hzk⟩ : ∃ z, zs[k]? = some z := ⟨_, List.getElem?_eq_getElem (by omega)⟩
      have he : (encL key zs)[k]? = some ((z + khash key [(k : Int)] % 256) % 256) := by
        have h1 : encK key zs (k + 1) = _ := encK_s hzk
        have h2 : ∀ m, k + 1 ≤ m → (encK key zs m)[k]? = (encK key zs (k + 1))[k]? := by
          intro m hm
          induction m with
          | zero => omega
          | succ m ihm =>
            by_cases hmk : m = k
            · subst hmk; rfl
            · rw [← ihm (by omega)]
              simp only [encK]
              rw [List.getElem?_append_left (by rw [encK_len]; omega)]
        show (encK key zs zs.length)[k]? = _
        rw [h2 _ hk, h1, List.getElem?_append_right (by rw [encK_len]; omega), encK_len, Nat.sub_self]
        rfl
      have hz2 := hb z (List.mem_of_getElem? hzk)
      rw [decK_s he, ih (by omega), take_get hzk]
      congr 2
      omega
  have := key2 zs.length (Nat.le_refl _)
  rw [List.take_length] at this
  unfold decL
  rw [encL_len]
  exact this
end
def w2 (c d : Int) : Int := IntKind.wrap .i64 (IntKind.wrap .i64 (2 * c) + d)
def mac8 (key d c : Int) (z : List Int) : Int := khash key ([d, c] ++ ([(z.length : Int)] ++ z))
theorem mac8_bd (key d c : Int) (z : List Int) : 0 ≤ mac8 key d c z ∧ mac8 key d c z < 2147483647 := khash_bd _ _
theorem all64_mac {d c : Int} {z : List Int} (hd : I64 d) (hc : I64 c) (hz : okz .u8 z) (hl : z.length ≤ 1000000000) : ∀ y ∈ [d, c] ++ ([(z.length : Int)] ++ z), I64 y := by
  intro y hy
  simp only [List.cons_append, List.nil_append, List.mem_cons] at hy
  rcases hy with rfl | rfl | rfl | hy
  · exact hd
  · exact hc
  · exact ⟨by omega, by omega⟩
  · have := okz8 hz y hy; exact ⟨by omega, by omega⟩
def rkey (root epoch : Int) : Int := dsteps root [1, 3, epoch]
theorem rkey_I64 {root epoch : Int} (h : I64 root) : I64 (rkey root epoch) := dsteps_I64 h _
def vrad (root e d c : Int) (z : List Int) (m : Int) : Bool := vsec d c z.length m && (decide (d = 1) && decide (m = mac8 (rkey root e) d c z))
def oOk (root gen ep g e d c : Int) (z : List Int) (m : Int) : Bool := decide (g = gen) && (decide (e = ep) && vrad root e d c z m)
def oZ (root gen ep g e d c : Int) (z : List Int) (m : Int) : List Int := bif oOk root gen ep g e d c z m then decL (dkey (rkey root ep) (w2 c d)) z else []
def oC (root gen ep g e d c : Int) (z : List Int) (m : Int) : Int := bif oOk root gen ep g e d c z m then c else 0
theorem oZ_ok (root gen ep g e d c : Int) (z : List Int) (m : Int) : okz .u8 (oZ root gen ep g e d c z m) := by
  unfold oZ; cases oOk root gen ep g e d c z m
  · exact okz_nil _
  · exact decL_ok _ _
theorem oZ_len (root gen ep g e d c : Int) (z : List Int) (m : Int) : (oZ root gen ep g e d c z m).length ≤ z.length := by
  unfold oZ; cases oOk root gen ep g e d c z m
  · exact Nat.zero_le _
  · rw [cond_true, decL_len]; exact Nat.le_refl _
theorem oC_bd {root gen ep g e d c : Int} {z : List Int} {m : Int} (hc : I64 c) : I64 (oC root gen ep g e d c z m) := by
  unfold oC; cases oOk root gen ep g e d c z m
  · show I64 0
    exact ⟨by decide, by decide⟩
  · exact hc
def sZ8 (root epoch s : Int) (z : List Int) : List Int := encL (dkey (rkey root epoch) (w2 s 1)) z
theorem sZ8_len (root epoch s : Int) (z : List Int) : (sZ8 root epoch s z).length = z.length := encL_len _ _
theorem sZ8_ok (root epoch s : Int) (z : List Int) : okz .u8 (sZ8 root epoch s z) := encL_ok _ _
def sM8 (root epoch s : Int) (z : List Int) : Int := mac8 (rkey root epoch) 1 s (sZ8 root epoch s z)
end Go.Proofs.Ytfkeiegajaofdaa
