/- The standard's sum (SHA-256) of a list of bytes, as plain Lean functions over words of 32 bits: filling up, blocks, schedule, rounds. -/
namespace Sc

/-- A sum: 32 bytes. -/
structure Id where
  l : List UInt8
  h : l.length = 32
  deriving DecidableEq

theorem Id.ext' {a b : Id} (h : a.l = b.l) : a = b := by
  cases a; cases b; cases h; rfl

abbrev Wd := BitVec 32

/-- The 64 words of the standard. -/
def kTab : List Wd := [
  0x428a2f98#32, 0x71374491#32, 0xb5c0fbcf#32, 0xe9b5dba5#32, 0x3956c25b#32, 0x59f111f1#32, 0x923f82a4#32, 0xab1c5ed5#32,
  0xd807aa98#32, 0x12835b01#32, 0x243185be#32, 0x550c7dc3#32, 0x72be5d74#32, 0x80deb1fe#32, 0x9bdc06a7#32, 0xc19bf174#32,
  0xe49b69c1#32, 0xefbe4786#32, 0x0fc19dc6#32, 0x240ca1cc#32, 0x2de92c6f#32, 0x4a7484aa#32, 0x5cb0a9dc#32, 0x76f988da#32,
  0x983e5152#32, 0xa831c66d#32, 0xb00327c8#32, 0xbf597fc7#32, 0xc6e00bf3#32, 0xd5a79147#32, 0x06ca6351#32, 0x14292967#32,
  0x27b70a85#32, 0x2e1b2138#32, 0x4d2c6dfc#32, 0x53380d13#32, 0x650a7354#32, 0x766a0abb#32, 0x81c2c92e#32, 0x92722c85#32,
  0xa2bfe8a1#32, 0xa81a664b#32, 0xc24b8b70#32, 0xc76c51a3#32, 0xd192e819#32, 0xd6990624#32, 0xf40e3585#32, 0x106aa070#32,
  0x19a4c116#32, 0x1e376c08#32, 0x2748774c#32, 0x34b0bcb5#32, 0x391c0cb3#32, 0x4ed8aa4a#32, 0x5b9cca4f#32, 0x682e6ff3#32,
  0x748f82ee#32, 0x78a5636f#32, 0x84c87814#32, 0x8cc70208#32, 0x90befffa#32, 0xa4506ceb#32, 0xbef9a3f7#32, 0xc67178f2#32]

def rotr (x : Wd) (n : Nat) : Wd := x.rotateRight n
def low (x : Wd) : Wd := rotr x 7 ^^^ rotr x 18 ^^^ (x >>> 3)
def high (x : Wd) : Wd := rotr x 17 ^^^ rotr x 19 ^^^ (x >>> 10)

/-- Four bytes as a word. -/
def be32 (a b c d : UInt8) : Wd := BitVec.ofNat 32 (a.toNat * 16777216 + b.toNat * 65536 + c.toNat * 256 + d.toNat)

/-- The schedule's next word, behind those that there are. -/
def wNext (b : List UInt8) (ws : List Wd) : Wd :=
  if ws.length < 16 then be32 (b.getD (4 * ws.length) 0) (b.getD (4 * ws.length + 1) 0) (b.getD (4 * ws.length + 2) 0) (b.getD (4 * ws.length + 3) 0)
  else ws.getD (ws.length - 16) 0 + low (ws.getD (ws.length - 15) 0) + ws.getD (ws.length - 7) 0 + high (ws.getD (ws.length - 2) 0)

/-- The first n words of a block's schedule. -/
def sched (b : List UInt8) : Nat → List Wd
  | 0 => []
  | n + 1 => sched b n ++ [wNext b (sched b n)]

theorem sched_length (b : List UInt8) (n : Nat) : (sched b n).length = n := by
  induction n with
  | zero => rfl
  | succ n ih => simp [sched, ih]

/-- Eight words. -/
structure St where
  a : Wd
  b : Wd
  c : Wd
  d : Wd
  e : Wd
  f : Wd
  g : Wd
  h : Wd
  deriving DecidableEq

def choose (e f g : Wd) : Wd := g ^^^ (e &&& (f ^^^ g))
def most (a b c : Wd) : Wd := (a &&& b) ||| (c &&& (a ||| b))
def sum1 (e : Wd) : Wd := rotr e 6 ^^^ rotr e 11 ^^^ rotr e 25
def sum0 (a : Wd) : Wd := rotr a 2 ^^^ rotr a 13 ^^^ rotr a 22

/-- One round. -/
def rnd (v : St) (k w : Wd) : St :=
  let one := v.h + sum1 v.e + choose v.e v.f v.g + k + w
  let two := sum0 v.a + most v.a v.b v.c
  ⟨one + two, v.a, v.b, v.c, v.d + one, v.e, v.f, v.g⟩

/-- The first n rounds over a schedule. -/
def rnds (ws : List Wd) (v : St) : Nat → St
  | 0 => v
  | n + 1 => rnd (rnds ws v n) (kTab.getD n 0) (ws.getD n 0)

def St.add (s v : St) : St := ⟨s.a + v.a, s.b + v.b, s.c + v.c, s.d + v.d, s.e + v.e, s.f + v.f, s.g + v.g, s.h + v.h⟩

/-- A block taken in. -/
def comp (s : St) (b : List UInt8) : St := s.add (rnds (sched b 64) s 64)

def init : St := ⟨0x6a09e667#32, 0xbb67ae85#32, 0x3c6ef372#32, 0xa54ff53a#32, 0x510e527f#32, 0x9b05688c#32, 0x1f83d9ab#32, 0x5be0cd19#32⟩

def St.list (s : St) : List Wd := [s.a, s.b, s.c, s.d, s.e, s.f, s.g, s.h]

/-- Byte j (0: the highest) of a word. -/
def wbyte (x : Wd) (j : Nat) : UInt8 := UInt8.ofNat (x.toNat / 256 ^ (3 - j))

def bytes4 (x : Wd) : List UInt8 := [wbyte x 0, wbyte x 1, wbyte x 2, wbyte x 3]

def St.id (s : St) : Id := ⟨s.list.flatMap bytes4, by simp [St.list, bytes4]⟩

theorem id_byte' (s : St) (q r : Nat) (hq : q < 8) (hr : r < 4) : s.id.l.getD (4 * q + r) 0 = wbyte (s.list.getD q 0) r := by
  match q, hq with
  | 0, _ =>
    match r, hr with
    | 0, _ => rfl
    | 1, _ => rfl
    | 2, _ => rfl
    | 3, _ => rfl
  | 1, _ =>
    match r, hr with
    | 0, _ => rfl
    | 1, _ => rfl
    | 2, _ => rfl
    | 3, _ => rfl
  | 2, _ =>
    match r, hr with
    | 0, _ => rfl
    | 1, _ => rfl
    | 2, _ => rfl
    | 3, _ => rfl
  | 3, _ =>
    match r, hr with
    | 0, _ => rfl
    | 1, _ => rfl
    | 2, _ => rfl
    | 3, _ => rfl
  | 4, _ =>
    match r, hr with
    | 0, _ => rfl
    | 1, _ => rfl
    | 2, _ => rfl
    | 3, _ => rfl
  | 5, _ =>
    match r, hr with
    | 0, _ => rfl
    | 1, _ => rfl
    | 2, _ => rfl
    | 3, _ => rfl
  | 6, _ =>
    match r, hr with
    | 0, _ => rfl
    | 1, _ => rfl
    | 2, _ => rfl
    | 3, _ => rfl
  | 7, _ =>
    match r, hr with
    | 0, _ => rfl
    | 1, _ => rfl
    | 2, _ => rfl
    | 3, _ => rfl
theorem id_byte (s : St) (i : Nat) (h : i < 32) : s.id.l.getD i 0 = wbyte (s.list.getD (i / 4) 0) (i % 4) := by
  have := id_byte' s (i / 4) (i % 4) (by omega) (by omega)
  rwa [show 4 * (i / 4) + i % 4 = i by omega] at this

/-- The last eight bytes: how many bits there are. -/
def be64 (n : Nat) : List UInt8 :=
  [UInt8.ofNat (n / 256 ^ 7), UInt8.ofNat (n / 256 ^ 6), UInt8.ofNat (n / 256 ^ 5), UInt8.ofNat (n / 256 ^ 4),
   UInt8.ofNat (n / 256 ^ 3), UInt8.ofNat (n / 256 ^ 2), UInt8.ofNat (n / 256), UInt8.ofNat n]

/-- How many noughts stand between the one and the count. -/
def zeros (n : Nat) : Nat := if n % 64 < 56 then 55 - n % 64 else 119 - n % 64

def padded (l : List UInt8) : List UInt8 := l ++ 0x80 :: (List.replicate (zeros l.length) 0 ++ be64 (8 * l.length))

theorem padded_length (l : List UInt8) : (padded l).length = 64 * ((l.length + 72) / 64) := by
  simp only [padded, zeros, be64, List.length_append, List.length_cons, List.length_replicate, List.length_nil]
  split <;> omega

/-- The first n blocks of 64 bytes. -/
def chunks : Nat → List UInt8 → List (List UInt8)
  | 0, _ => []
  | n + 1, l => l.take 64 :: chunks n (l.drop 64)

/-- The blocks of a text. -/
def blocks (l : List UInt8) : List (List UInt8) := chunks ((l.length + 72) / 64) (padded l)

/-- THE STANDARD's SUM. -/
def sha (l : List UInt8) : Id := ((blocks l).foldl comp init).id

theorem sha_abc : ((sha [97, 98, 99]).l.getD 0 0, (sha [97, 98, 99]).l.getD 1 0, (sha [97, 98, 99]).l.getD 2 0, (sha [97, 98, 99]).l.getD 3 0, (sha [97, 98, 99]).l.getD 31 0) = (0xba, 0x78, 0x16, 0xbf, 0xad) := by
  decide +kernel

end Sc
