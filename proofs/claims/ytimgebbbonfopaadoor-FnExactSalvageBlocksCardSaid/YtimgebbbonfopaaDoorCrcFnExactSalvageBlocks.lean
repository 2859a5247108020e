/- Check values of texts, in the program and in the reference, and their five digits. -/
import Derived.Test.YtimgebbbonfopaaDoorListFnExactSalvageBlocks
import Derived.Test.YtimgebbbonfopaaDoorPlain3
import Derived.Laws.BitsLemmas
import Derived.Test.YtimgebbbonfopaaDoorQFnExactSalvageBlocks1
import Derived.Test.YtimgebbbonfopaaDoorQFnExactSalvageBlocks5
namespace Go.Proofs.YtimgebbbonfopaaDoor.QFnExactSalvageBlocks
open Go.RowKit Go.Proofs.YtimgebbbonfopaaDoorW.PrintWords Go.Proofs.YtimgebbbonfopaaDoorW.PrintLast Go.Proofs.YtimgebbbonfopaaDoorW.PrintMore Go.Proofs.YtimgebbbonfopaaDoor.Plain
set_option linter.unusedVariables false
set_option linter.unusedSimpArgs false

theorem bits_size : (2 : Nat) ^ IntKind.i64.bits = 18446744073709551616 := by decide
theorem xor_small {a b : Nat} (ha : a < 65536) (hb : b < 65536) : Go.bits .xor .i64 (a : Int) (b : Int) = ((a ^^^ b : Nat) : Int) ∧ a ^^^ b < 65536 := by
  have hx : a ^^^ b < 65536 := Nat.xor_lt_two_pow (n := 16) ha hb
  have ha' : a % 2 ^ IntKind.i64.bits = a := Nat.mod_eq_of_lt (by rw [bits_size]; omega)
  have hb' : b % 2 ^ IntKind.i64.bits = b := Nat.mod_eq_of_lt (by rw [bits_size]; omega)
  refine ⟨?_, hx⟩
  simp only [Go.bits, BitVec.ofInt_natCast, BitVec.toNat_xor, BitVec.toNat_ofNat, ha', hb']
  rw [IntKind.wrap_i64]
  omega
theorem and_mask {x : Int} (h0 : 0 ≤ x) (h1 : x < 1073741824) : Go.bits .and .i64 x 65535 = x % 65536 :=
  bits_mask .i64 30 (by decide) (fun n a b => by rw [IntKind.wrap_i64]; omega) 16 (by decide) x h0 h1
def crcBit (x : Int) : Int := if wrap64 (x * 2) > 65535 then Go.bits .xor .i64 (Go.bits .and .i64 (wrap64 (x * 2)) 65535) 4129 else wrap64 (x * 2)
theorem crcBit_in {x : Int} (h0 : 0 ≤ x) (h1 : x < 65536) : 0 ≤ crcBit x ∧ crcBit x < 65536 := by
  unfold crcBit
  rw [wr (by omega) (by omega)]
  split
  · rw [and_mask (by omega) (by omega)]
    obtain ⟨n, hn⟩ := Int.eq_ofNat_of_zero_le (show 0 ≤ (x * 2) % 65536 by omega)
    have hl : n < 65536 := by omega
    obtain ⟨h, hx⟩ := xor_small hl (show 4129 < 65536 by decide)
    rw [hn]
    have h' : Go.bits .xor .i64 (n : Int) 4129 = ((n ^^^ 4129 : Nat) : Int) := h
    rw [h']
    omega
  · omega
def bitsN : Nat → Int → Int
  | 0, x => x
  | n + 1, x => bitsN n (crcBit x)
theorem bitsN_succ (n : Nat) (x : Int) : bitsN (n + 1) x = bitsN n (crcBit x) := rfl
theorem bitsN_in : ∀ (n : Nat) {x : Int}, 0 ≤ x → x < 65536 → 0 ≤ bitsN n x ∧ bitsN n x < 65536
  | 0, x, h0, h1 => ⟨h0, h1⟩
  | n + 1, x, h0, h1 => bitsN_in n (crcBit_in h0 h1).1 (crcBit_in h0 h1).2
def crcByte (x : Int) (c : UInt8) : Int := bitsN 8 (Go.bits .xor .i64 x (wrap64 ((wrap64 (c.toNat : Int)) * 256)))
theorem crcByte_in {x : Int} (c : UInt8) (h0 : 0 ≤ x) (h1 : x < 65536) : 0 ≤ crcByte x c ∧ crcByte x c < 65536 := by
  have hc := c.toNat_lt
  unfold crcByte
  rw [wr (n := (c.toNat : Int)) (by omega) (by omega), wr (by omega) (by omega)]
  obtain ⟨n, rfl⟩ := Int.eq_ofNat_of_zero_le h0
  have e : (c.toNat : Int) * 256 = ((c.toNat * 256 : Nat) : Int) := by omega
  obtain ⟨h, hx⟩ := xor_small (a := n) (b := c.toNat * 256) (by omega) (by omega)
  rw [e, h]
  exact bitsN_in 8 (by omega) (by omega)
def crcL : Int → List UInt8 → Int
  | x, [] => x
  | x, c :: r => crcL (crcByte x c) r
theorem crcL_in : ∀ (l : List UInt8) {x : Int}, 0 ≤ x → x < 65536 → 0 ≤ crcL x l ∧ crcL x l < 65536
  | [], x, h0, h1 => ⟨h0, h1⟩
  | c :: r, x, h0, h1 => crcL_in r (crcByte_in c h0 h1).1 (crcByte_in c h0 h1).2
theorem w8 {n : Nat} (h : n + 1 ≤ 8) : wrap64 (((8 - (n + 1) : Nat) : Int) + 1) = ((8 - n : Nat) : Int) := by
  rw [wr (by omega) (by omega)]
  omega
theorem spec_crc_l1 (s : ByteArray) (i : Int) : ∀ (n K : Nat) (x : Int), n ≤ 8 → n < K → spec_l01Crc.l1 K s x i ((8 - n : Nat) : Int) = spec_l01Crc.l0 (K - n - 1) s (bitsN n x) (wrap64 (i + 1)) := by
  intro n
  induction n with
  | zero =>
    intro K x h hk
    obtain ⟨K, rfl⟩ := succ_of hk
    simp only [spec_l01Crc.l1]
    rw [if_neg (by omega)]
    rfl
  | succ n ih =>
    intro K x h hk
    obtain ⟨K, rfl⟩ := succ_of hk
    have e : K + 1 - (n + 1) - 1 = K - n - 1 := by omega
    simp only [spec_l01Crc.l1]
    rw [if_pos (by omega), w8 h, e]
    by_cases hx : wrap64 (x * 2) > 65535
    · rw [if_pos hx, ih K _ (by omega) (by omega)]
      rw [bitsN_succ]
      unfold crcBit
      rw [if_pos hx]
    · rw [if_neg hx, ih K _ (by omega) (by omega)]
      rw [bitsN_succ]
      unfold crcBit
      rw [if_neg hx]
theorem spec_crc_l0 (s : ByteArray) (hs : s.size ≤ 1048576) : ∀ (l : List UInt8) (K i : Nat) (x : Int), (L s).drop i = l → i ≤ s.size → 10 * l.length < K → spec_l01Crc.l0 K s x (i : Int) = some (crcL x l) := by
  intro l
  induction l with
  | nil =>
    intro K i x hd hi hk
    obtain ⟨K, rfl⟩ := succ_of hk
    have := drop_end hd
    simp only [spec_l01Crc.l0]
    rw [if_neg (by omega)]
    rfl
  | cons c r ih =>
    intro K i x hd hi hk
    obtain ⟨K, rfl⟩ := succ_of hk
    have hlt := drop_lt hd
    obtain ⟨hn, _⟩ := drop_next hd
    rw [List.length_cons] at hk
    have h1 := spec_crc_l1 s (i : Int) 8 K (Go.bits .xor .i64 x (wrap64 ((wrap64 (c.toNat : Int)) * 256))) (Nat.le_refl _) (by omega)
    simp only [spec_l01Crc.l0]
    rw [if_pos (by omega), if_pos (by omega), bt_drop hd]
    refine h1.trans ?_
    rw [w1 (by omega), ih _ (i + 1) _ hn (by omega) (by omega)]
    rfl
theorem spec_crc (s : ByteArray) (hs : s.size ≤ 1048576) (k : Nat) (hk : 10 * s.size < k) : spec_l01Crc.f k s 65535 = some (crcL 65535 (L s)) :=
  spec_crc_l0 s hs (L s) k 0 65535 rfl (Nat.zero_le _) (by rw [L_size]; exact hk)
theorem impl_crc_l1 (s : ByteArray) (m i : Int) : ∀ (n K : Nat) (x : Int), n ≤ 8 → n < K → impl_Crc16.l1 K s x m i ((8 - n : Nat) : Int) = impl_Crc16.l0 (K - n - 1) s (bitsN n x) m (wrap64 (i + 1)) := by
  intro n
  induction n with
  | zero =>
    intro K x h hk
    obtain ⟨K, rfl⟩ := succ_of hk
    simp only [impl_Crc16.l1]
    rw [if_neg (by omega)]
    rfl
  | succ n ih =>
    intro K x h hk
    obtain ⟨K, rfl⟩ := succ_of hk
    have e : K + 1 - (n + 1) - 1 = K - n - 1 := by omega
    simp only [impl_Crc16.l1]
    rw [if_pos (by omega), w8 h, e]
    by_cases hx : wrap64 (x * 2) > 65535
    · rw [if_pos hx, ih K _ (by omega) (by omega)]
      rw [bitsN_succ]
      unfold crcBit
      rw [if_pos hx]
    · rw [if_neg hx, ih K _ (by omega) (by omega)]
      rw [bitsN_succ]
      unfold crcBit
      rw [if_neg hx]
theorem impl_crc_l0 (s : ByteArray) (hs : s.size ≤ 1048576) : ∀ (l : List UInt8) (K i : Nat) (x : Int), (L s).drop i = l → i ≤ s.size → 10 * l.length < K → impl_Crc16.l0 K s x (s.size : Int) (i : Int) = some (crcL x l) := by
  intro l
  induction l with
  | nil =>
    intro K i x hd hi hk
    obtain ⟨K, rfl⟩ := succ_of hk
    have := drop_end hd
    simp only [impl_Crc16.l0]
    rw [if_neg (by omega)]
    rfl
  | cons c r ih =>
    intro K i x hd hi hk
    obtain ⟨K, rfl⟩ := succ_of hk
    have hlt := drop_lt hd
    obtain ⟨hn, _⟩ := drop_next hd
    rw [List.length_cons] at hk
    have h1 := impl_crc_l1 s (s.size : Int) (i : Int) 8 K (Go.bits .xor .i64 x (wrap64 ((wrap64 (c.toNat : Int)) * 256))) (Nat.le_refl _) (by omega)
    simp only [impl_Crc16.l0]
    rw [if_pos (by omega), if_pos (by omega), if_pos (by omega), bt_drop hd]
    refine h1.trans ?_
    rw [w1 (by omega), ih _ (i + 1) _ hn (by omega) (by omega)]
    rfl
theorem impl_crc (s : ByteArray) (hs : s.size ≤ 1048576) (k : Nat) (hk : 10 * s.size < k) : impl_Crc16.f k s 65535 = some (crcL 65535 (L s)) := by
  unfold impl_Crc16.f
  rw [impl_in]
  exact impl_crc_l0 s hs (L s) k 0 65535 rfl (Nat.zero_le _) (by rw [L_size]; exact hk)

/-! ### five digits -/
theorem decDigits_len : ∀ (m u : Nat), u < 10 ^ (m + 1) → 1 ≤ (Lib.decDigits u).length ∧ (Lib.decDigits u).length ≤ m + 1 := by
  intro m
  induction m with
  | zero =>
    intro u hu
    rw [dec_small (by simpa using hu)]
    simp
  | succ m ih =>
    intro u hu
    by_cases h : u < 10
    · rw [dec_small h]
      simp
    · have e : u = 10 * (u / 10) + u % 10 := by omega
      have hl := ih (u / 10) (by rw [Nat.pow_succ] at hu; omega)
      rw [e, dec_snoc (by omega) (by omega), List.length_append, List.length_singleton]
      omega
def five (n : Int) : List UInt8 := List.replicate (5 - (Lib.itoa n).length) 48 ++ Lib.itoa n
theorem itoa_nat (u : Nat) : Lib.itoa (u : Int) = Lib.decDigits u := by
  unfold Lib.itoa
  rw [if_neg (by omega), Int.toNat_natCast]
theorem itoa_five {n : Int} (h0 : 0 ≤ n) (h1 : n < 65536) : 1 ≤ (Lib.itoa n).length ∧ (Lib.itoa n).length ≤ 5 := by
  obtain ⟨u, rfl⟩ := Int.eq_ofNat_of_zero_le h0
  have e : (10 : Nat) ^ (4 + 1) = 100000 := by decide
  rw [show ((u : Nat) : Int) = (u : Int) from rfl, itoa_nat]
  exact decDigits_len 4 u (by rw [e]; omega)
def rD : Nat → Nat → List Int
  | 0, _ => []
  | m + 1, u => if u = 0 then [] else (48 + (u % 10 : Nat) : Int) :: rD m (u / 10)
theorem rD_zero : ∀ m, rD m 0 = []
  | 0 => rfl
  | m + 1 => by simp [rD]
theorem rD_len : ∀ m u, (rD m u).length ≤ m
  | 0, _ => Nat.le_refl _
  | m + 1, u => by
    unfold rD
    split
    · simp
    · have := rD_len m (u / 10)
      simp
      omega
theorem rD_dec : ∀ (m u : Nat), 0 < u → u < 10 ^ m → ((rD m u).reverse.map fun z => UInt8.ofNat z.toNat) = Lib.decDigits u := by
  intro m
  induction m with
  | zero => intro u h0 h1; rw [Nat.pow_zero] at h1; omega
  | succ m ih =>
    intro u h0 h1
    unfold rD
    rw [if_neg (by omega), List.reverse_cons, List.map_append]
    have e : (48 + ((u % 10 : Nat) : Int)).toNat = 48 + u % 10 := by omega
    by_cases h : u < 10
    · rw [show u / 10 = 0 by omega, rD_zero, dec_small h]
      simp only [List.reverse_nil, List.map_nil, List.nil_append, List.map_cons, e]
      rw [show u % 10 = u by omega]
    · rw [ih (u / 10) (by omega) (by rw [Nat.pow_succ] at h1; omega)]
      simp only [List.map_nil, List.map_cons, e]
      conv => rhs; rw [show u = 10 * (u / 10) + u % 10 by omega]
      rw [dec_snoc (by omega) (by omega)]
theorem dec_l0 : ∀ (m u K : Nat) (x0 : Int) (ds : List Int), 0 ≤ x0 → u < 10 ^ m → u ≤ 4611686018427387904 → m < K → ds.length + m ≤ 1000 →
    ∃ K', K ≤ K' + m + 1 ∧ spec_l01Dec.l0 K x0 ds (u : Int) = spec_l01Dec.j1 K' (ds ++ rD m u) := by
  intro m
  induction m with
  | zero =>
    intro u K x0 ds h0 hu hb hk hd
    obtain ⟨K, rfl⟩ := succ_of hk
    have : u = 0 := by rw [Nat.pow_zero] at hu; omega
    subst this
    refine ⟨K, by omega, ?_⟩
    simp only [spec_l01Dec.l0]
    rw [if_pos (by omega), if_neg (by omega)]
    simp [rD]
  | succ m ih =>
    intro u K x0 ds h0 hu hb hk hd
    obtain ⟨K, rfl⟩ := succ_of hk
    by_cases hz : u = 0
    · subst hz
      refine ⟨K, by omega, ?_⟩
      simp only [spec_l01Dec.l0]
      rw [if_pos (by omega), if_neg (by omega), rD_zero, List.append_nil]
    · have e1 : Int.tmod (u : Int) 10 = ((u % 10 : Nat) : Int) := by rw [Int.tmod_eq_emod_of_nonneg (by omega)]; omega
      have e2 : Int.tdiv (u : Int) 10 = ((u / 10 : Nat) : Int) := by rw [Int.tdiv_eq_ediv_of_nonneg (by omega)]; omega
      obtain ⟨K', hK', he⟩ := ih (u / 10) K x0 (ds ++ [(48 + (u % 10 : Nat) : Int)]) h0 (by rw [Nat.pow_succ] at hu; omega) (by omega) (by omega) (by rw [List.length_append, List.length_singleton]; omega)
      refine ⟨K', by omega, ?_⟩
      simp only [spec_l01Dec.l0]
      rw [if_neg (by omega), e1, e2, if_neg (by omega), if_pos (by omega), wr (n := 48 + ((u % 10 : Nat) : Int)) (by omega) (by omega), wr (by omega) (by omega)]
      rw [show (48 + ((u % 10 : Nat) : Int)) % 256 = 48 + ((u % 10 : Nat) : Int) by omega, he]
      conv => rhs; unfold rD
      rw [if_neg hz]
      simp
theorem dec_l1 (x3 : List Int) (hx : x3.length ≤ 1000) : ∀ (i K : Nat) (x6 : List Int), i ≤ x3.length → i < K → x6.length + i ≤ 1000 → spec_l01Dec.l1 K x3 x6 ((i : Int) - 1) = some (strOfNums (x6 ++ (x3.take i).reverse)) := by
  intro i
  induction i with
  | zero =>
    intro K x6 hi hk h6
    obtain ⟨K, rfl⟩ := succ_of hk
    simp only [spec_l01Dec.l1]
    rw [if_neg (by omega)]
    simp
  | succ i ih =>
    intro K x6 hi hk h6
    obtain ⟨K, rfl⟩ := succ_of hk
    rw [show ((i + 1 : Nat) : Int) - 1 = (i : Int) by omega]
    simp only [spec_l01Dec.l1]
    rw [if_pos (by omega), if_pos (by omega), if_pos (by omega), if_pos (by omega), wr (by omega) (by omega), ih K _ (by omega) (by omega) (by rw [List.length_append, List.length_singleton]; omega)]
    have hg : x3[i]? = some x3[i] := List.getElem?_eq_getElem (by omega)
    have hr : rd x3 (i : Int) = x3[i] := by
      unfold rd
      rw [Int.toNat_natCast, List.getD_eq_getElem?_getD, hg]
      rfl
    have ht : x3.take (i + 1) = x3.take i ++ [x3[i]] := by rw [List.take_add_one, hg]; rfl
    rw [hr, ht, List.reverse_append, List.append_assoc]
    rfl
theorem spec_dec {n : Int} (h0 : 0 ≤ n) (h1 : n < 65536) (k : Nat) (hk : 40 < k) : spec_l01Dec.f k n = some (ofL (Lib.itoa n)) := by
  obtain ⟨u, rfl⟩ := Int.eq_ofNat_of_zero_le h0
  rw [show ((u : Nat) : Int) = (u : Int) from rfl, itoa_nat]
  unfold spec_l01Dec.f
  by_cases hz : u = 0
  · subst hz
    rw [if_pos (by omega), dec_small (by omega)]
    rfl
  · rw [if_neg (by omega)]
    have e : (10 : Nat) ^ 5 = 100000 := by decide
    obtain ⟨K', hK', he⟩ := dec_l0 5 u k (u : Int) [] (by omega) (by rw [e]; omega) (by omega) (by omega) (by simp)
    rw [he, List.nil_append]
    have hl := rD_len 5 u
    obtain ⟨K', rfl⟩ := succ_of (show 0 < K' by omega)
    simp only [spec_l01Dec.j1]
    rw [wr (by omega) (by omega), dec_l1 (rD 5 u) (by omega) _ K' [] (Nat.le_refl _) (by omega) (by simp; omega)]
    rw [List.take_length, List.nil_append]
    unfold strOfNums ofL
    rw [rD_dec 5 u (by omega) (by rw [e]; omega)]
theorem five_l0 : ∀ (d K : Nat) (s : ByteArray), 5 - s.size = d → d < K → s.size ≤ 1000 → spec_l29Five.l0 K s = some (ofL (List.replicate d 48 ++ L s)) := by
  intro d
  induction d with
  | zero =>
    intro K s hd hk hs
    obtain ⟨K, rfl⟩ := succ_of hk
    simp only [spec_l29Five.l0]
    rw [if_neg (by omega)]
    simp [ofL_L]
  | succ d ih =>
    intro K s hd hk hs
    obtain ⟨K, rfl⟩ := succ_of hk
    have e1 : (⟨#[48]⟩ : ByteArray) = ofL [48] := rfl
    have hz : ((⟨#[48]⟩ : ByteArray) ++ s).size = 1 + s.size := by rw [← L_size, L_app, List.length_append, L_size s]; rfl
    simp only [spec_l29Five.l0]
    rw [if_pos (by omega), if_pos (by omega), ih K _ (by omega) (by omega) (by omega), L_app, e1, L_ofL]
    rw [← List.append_assoc, List.replicate_succ']
theorem spec_five {n : Int} (h0 : 0 ≤ n) (h1 : n < 65536) (k : Nat) (hk : 40 < k) : spec_l29Five.f k n = some (ofL (five n)) := by
  unfold spec_l29Five.f five
  have hl := itoa_five h0 h1
  rw [spec_dec h0 h1 k hk]
  simp only [Option.bind_some]
  rw [five_l0 (5 - (Lib.itoa n).length) k _ (by rw [ofL_size]) (by omega) (by rw [ofL_size]; omega), L_ofL]
theorem repeat_one : ∀ n, Lib.repeatL [48] n = List.replicate n 48
  | 0 => rfl
  | n + 1 => by
    show [48] ++ Lib.repeatL [48] n = _
    rw [repeat_one n, List.replicate_succ]
    rfl
theorem app_ofL' (x y : List UInt8) : ofL x ++ ofL y = ofL (x ++ y) := by rw [← ofL_L (ofL x ++ ofL y), L_app, L_ofL, L_ofL]
def check (l : List UInt8) : List UInt8 := five (crcL 65535 l)
theorem impl_check (s : ByteArray) (hs : s.size ≤ 1048576) (k : Nat) (hk : 10 * s.size < k) : impl_checkText.f k s = some (ofL (check (L s))) := by
  unfold impl_checkText.f check
  obtain ⟨h0, h1⟩ := crcL_in (L s) (x := 65535) (by omega) (by omega)
  have hl := itoa_five h0 h1
  rw [impl_crc s hs k hk]
  simp only [Option.bind_some]
  generalize crcL 65535 (L s) = n at h0 h1 hl
  rw [impl_dec n (by omega) (by omega)]
  simp only [Option.bind_some, ofL_size]
  have e1 : (⟨#[48]⟩ : ByteArray) = ofL [48] := rfl
  unfold strings_Repeat.f
  rw [if_pos ⟨by omega, by omega, by rw [e1, ofL_size, List.length_singleton]; omega⟩]
  simp only [Option.bind_some]
  rw [show (5 - ((Lib.itoa n).length : Int)).toNat = 5 - (Lib.itoa n).length by omega, repeat_one]
  have ef : (⟨(List.replicate (5 - (Lib.itoa n).length) (48 : UInt8)).toArray⟩ : ByteArray) = ofL (List.replicate (5 - (Lib.itoa n).length) 48) := rfl
  rw [ef, ofL_size, List.length_replicate, if_pos (by omega), app_ofL']
  rfl
end Go.Proofs.YtimgebbbonfopaaDoor.QFnExactSalvageBlocks
