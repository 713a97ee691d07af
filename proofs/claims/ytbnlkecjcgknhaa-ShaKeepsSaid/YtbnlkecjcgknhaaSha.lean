/-
  THE HASH, IN PLAIN LEAN: SHA-256 over lists of whole numbers (each a byte), as the document has it. Nothing of the program is named here.
-/
import Derived.Test.YtbnlkecjcgknhaaWMore
namespace Go.Proofs.Ytbnlkecjcgknhaa.Sha
open Go.Proofs.YtbnlkecjcgknhaaW.PrintWords Go.Proofs.YtbnlkecjcgknhaaW.PrintMore
set_option linter.unusedVariables false
set_option linter.unusedSimpArgs false

def K : List Int := [1116352408, 1899447441, 3049323471, 3921009573, 961987163, 1508970993, 2453635748, 2870763221, 3624381080, 310598401, 607225278, 1426881987, 1925078388, 2162078206, 2614888103, 3248222580, 3835390401, 4022224774, 264347078, 604807628, 770255983, 1249150122, 1555081692, 1996064986, 2554220882, 2821834349, 2952996808, 3210313671, 3336571891, 3584528711, 113926993, 338241895, 666307205, 773529912, 1294757372, 1396182291, 1695183700, 1986661051, 2177026350, 2456956037, 2730485921, 2820302411, 3259730800, 3345764771, 3516065817, 3600352804, 4094571909, 275423344, 430227734, 506948616, 659060556, 883997877, 958139571, 1322822218, 1537002063, 1747873779, 1955562222, 2024104815, 2227730452, 2361852424, 2428436474, 2756734187, 3204031479, 3329325298]
def H0 : List Int := [1779033703, 3144134277, 1013904242, 2773480762, 1359893119, 2600822924, 528734635, 1541459225]

def xor (x y : Int) : Int := Go.bits .xor .u32 x y
def and (x y : Int) : Int := Go.bits .and .u32 x y
/-- a word turned down by n -/
def rot (x : Int) (n : Nat) : Int := Go.bits .or .u32 ((x * 2 ^ (32 - n)) % 4294967296) (x / 2 ^ n)
def big1 (e : Int) : Int := xor (xor (rot e 6) (rot e 11)) (rot e 25)
def big0 (a : Int) : Int := xor (xor (rot a 2) (rot a 13)) (rot a 22)
def small0 (x : Int) : Int := xor (xor (rot x 7) (rot x 18)) (x / 8)
def small1 (y : Int) : Int := xor (xor (rot y 17) (rot y 19)) (y / 1024)
def ch (e f g : Int) : Int := xor (and e f) (and (xor 4294967295 e) g)
def maj (a b c : Int) : Int := xor (xor (and a b) (and a c)) (and b c)

/-- word number i of a block -/
def word (b : List Int) (i : Nat) : Int := b.getD (4 * i) 0 * 16777216 + b.getD (4 * i + 1) 0 * 65536 + b.getD (4 * i + 2) 0 * 256 + b.getD (4 * i + 3) 0
/-- the first n words -/
def first : Nat → List Int → List Int
  | 0, _ => []
  | n + 1, b => first n b ++ [word b n]
def next (w : List Int) : Int := (w.getD (w.length - 16) 0 + w.getD (w.length - 7) 0 + small0 (w.getD (w.length - 15) 0) + small1 (w.getD (w.length - 2) 0)) % 4294967296
def ext : Nat → List Int → List Int
  | 0, w => w
  | n + 1, w => ext n (w ++ [next w])
def words (b : List Int) : List Int := ext 48 (first 16 b)

def x1 (k w e f g h : Int) : Int := (h + big1 e + ch e f g + k + w) % 4294967296
def y1 (a b c : Int) : Int := (big0 a + maj a b c) % 4294967296
def step (k w : Int) : List Int → List Int
  | [a, b, c, d, e, f, g, h] => [(x1 k w e f g h + y1 a b c) % 4294967296, a, b, c, (d + x1 k w e f g h) % 4294967296, e, f, g]
  | l => l
def rounds : List Int → List Int → List Int → List Int
  | k :: ks, w :: ws, s => rounds ks ws (step k w s)
  | _, _, s => s
/-- the state behind a block -/
def take (s b : List Int) : List Int := List.zipWith (fun x y => (x + y) % 4294967296) s (rounds K (words b) s)
def blocks : Nat → List Int → List Int → List Int
  | 0, _, s => s
  | n + 1, p, s => blocks n (p.drop 64) (take s (p.take 64))
def len8 (n : Nat) : List Int := [(8 * (n : Int) / 72057594037927936) % 256, (8 * (n : Int) / 281474976710656) % 256, (8 * (n : Int) / 1099511627776) % 256, (8 * (n : Int) / 4294967296) % 256, (8 * (n : Int) / 16777216) % 256, (8 * (n : Int) / 65536) % 256, (8 * (n : Int) / 256) % 256, (8 * (n : Int)) % 256]
def pad (l : List Int) : List Int := l ++ 128 :: List.replicate ((119 - l.length % 64) % 64) 0 ++ len8 l.length
def bytes4 (x : Int) : List Int := [(x / 16777216) % 256, (x / 65536) % 256, (x / 256) % 256, x % 256]
def out (s : List Int) : List Int := s.flatMap bytes4
def nums (l : List Int) : List Int := out (blocks ((pad l).length / 64) (pad l) H0)
def sum (l : List Int) : ByteArray := strOfNums (nums l)

/-- Is it a list of bytes, that is not too long? -/
def ok (l : List Int) : Bool := l.all (fun x => decide (0 ≤ x) && decide (x < 256)) && decide (l.length ≤ 140737488355000)

/-! ### lengths -/
theorem first_length (n : Nat) (b : List Int) : (first n b).length = n := by
  induction n with
  | zero => rfl
  | succ n ih => simp [first, ih]
theorem ext_length (n : Nat) (w : List Int) : (ext n w).length = w.length + n := by
  induction n generalizing w with
  | zero => rfl
  | succ n ih => simp [ext, ih]; omega
theorem words_length (b : List Int) : (words b).length = 64 := by simp [words, ext_length, first_length]
theorem step_length (k w : Int) (s : List Int) (h : s.length = 8) : (step k w s).length = 8 := by
  match s, h with
  | [a, b, c, d, e, f, g, i], _ => rfl
theorem rounds_length (ks ws s : List Int) (h : s.length = 8) : (rounds ks ws s).length = 8 := by
  induction ks generalizing ws s with
  | nil => simpa [rounds] using h
  | cons k ks ih =>
    cases ws with
    | nil => simpa [rounds] using h
    | cons w ws => simp only [rounds]; exact ih _ _ (step_length _ _ _ h)
theorem take_length (s b : List Int) (h : s.length = 8) : (take s b).length = 8 := by
  simp [take, rounds_length _ _ _ h, h]
theorem blocks_length (n : Nat) (p s : List Int) (h : s.length = 8) : (blocks n p s).length = 8 := by
  induction n generalizing p s with
  | zero => exact h
  | succ n ih => simp only [blocks]; exact ih _ _ (take_length _ _ h)
theorem out_length (s : List Int) : (out s).length = 4 * s.length := by
  induction s with
  | nil => rfl
  | cons x s ih => simp [out, bytes4] at ih ⊢; omega
theorem nums_length (l : List Int) : (nums l).length = 32 := by
  simp [nums, out_length, blocks_length _ _ H0 rfl]
theorem sum_size (l : List Int) : (sum l).size = 32 := by
  simp [sum, strOfNums, ByteArray.size, nums_length]
theorem out_bytes (s : List Int) : ∀ x ∈ out s, 0 ≤ x ∧ x < 256 := by
  intro x hx
  simp only [out, List.mem_flatMap, bytes4, List.mem_cons, List.not_mem_nil, or_false] at hx
  obtain ⟨y, _, h⟩ := hx
  omega
theorem pad_length (l : List Int) : (pad l).length % 64 = 0 := by
  simp only [pad, List.length_append, List.length_cons, List.length_replicate, len8, List.length_nil]
  omega
end Go.Proofs.Ytbnlkecjcgknhaa.Sha
