/- Sums that the standards name, told by the kernel: plain Lean. (The lists are printed by a small program.) -/
import Derived.Test.YtefobboakikpbaaDoorMilP
import Derived.Test.YtefobboakikpbaaDoorCrc
namespace Go.Proofs.YtefobboakikpbaaDoor
set_option linter.unusedVariables false
theorem sha_one (l : List UInt8) (kw : List Nat) (u : St) (hl : (tailOf l l.length).length = 64) (hk : ((List.range 64).map fun i => keys.getD i 0 + (sched (tailOf l l.length) 64).getD i 0) = kw)
    (hc : blocksK kw (eqK u.a u.b u.c u.d u.e u.f u.g u.h) 1 start.a start.b start.c start.d start.e start.f start.g start.h = true) : sha l = outBytes u := by
  have h1 := many_step (kw := kw) (n := 0) (s0 := start) 1 u start_ok rfl hc
  unfold sha
  rw [hl]
  show outBytes (blockOf start (((tailOf l l.length).drop (64 * 0)).take 64)) = _
  rw [Nat.mul_zero, List.drop_zero, List.take_of_length_le (by rw [hl]; exact Nat.le_refl _)]
  have h2 : blockOf start (tailOf l l.length) = blockW kw start := by
    unfold blockOf blockW
    rw [rounds_kw]
    exact congrArg (fun l => start.add (roundsW l start)) hk
  rw [h2, ← h1]
  rfl
def kwNil : List Nat := [3263836056, 1899447441, 3049323471, 3921009573, 961987163, 1508970993, 2453635748, 2870763221, 3624381080, 310598401, 607225278, 1426881987, 1925078388, 2162078206, 2614888103, 3248222580, 5982874049, 4022224774, 266464710, 604807628, 1340683375, 1249150122, 1639530270, 4143548634, 4031140178, 2826069613, 2954448077, 4921595847, 6929133939, 3922323023, 3708837037, 3713091943, 3953658649, 1449642142, 1404361666, 4138991145, 3599184362, 6260843013, 4990781486, 4622631719, 5291560969, 2882302669, 4821955385, 6321015512, 6802158122, 4214560419, 7392156276, 1850731680, 4171468667, 1255715861, 1667082872, 914327138, 1328077187, 1518699746, 2444778031, 5274368921, 1999303413, 3991649259, 2361247565, 6523183051, 6132692482, 4338146931, 4357263444, 4325391757]
theorem kwNil_eq : ((List.range 64).map fun i => keys.getD i 0 + (sched (tailOf [] 0) 64).getD i 0) = kwNil := by decide +kernel
theorem sha_nil : sha [] = [227, 176, 196, 66, 152, 252, 28, 20, 154, 251, 244, 200, 153, 111, 185, 36, 39, 174, 65, 228, 100, 155, 147, 76, 164, 149, 153, 27, 120, 82, 184, 85] := by
  rw [sha_one [] kwNil ⟨3820012610, 2566659092, 2600203464, 2574235940, 665731556, 1687917388, 2761267483, 2018687061⟩ (by decide) kwNil_eq (by decide +kernel)]; decide +kernel
def kwAbc : List Nat := [2750190360, 1899447441, 3049323471, 3921009573, 961987163, 1508970993, 2453635748, 2870763221, 3624381080, 310598401, 607225278, 1426881987, 1925078388, 2162078206, 2614888103, 3248222604, 5469228353, 4023207814, 2372534731, 2215421330, 1820764135, 1274577066, 1871538615, 5802577000, 5911850348, 5895634959, 6807314641, 4055874594, 5972732250, 7552808978, 1995152373, 3890266274, 3148653572, 1770249131, 4246826429, 5440170357, 1872080106, 3910766021, 4660702316, 3067494823, 5402765365, 6857733541, 4302304745, 4003433798, 3722071051, 5815649611, 6144082658, 382133322, 4645407457, 3937240035, 3777946496, 3729388316, 3184978832, 4578938118, 1881411963, 4735232652, 5971066043, 5981869479, 4910186866, 4387475283, 5184081679, 4477132003, 7208257219, 3642975965]
theorem kwAbc_eq : ((List.range 64).map fun i => keys.getD i 0 + (sched (tailOf [97, 98, 99] 3) 64).getD i 0) = kwAbc := by decide +kernel
theorem sha_abc : sha [97, 98, 99] = [186, 120, 22, 191, 143, 1, 207, 234, 65, 65, 64, 222, 93, 174, 34, 35, 176, 3, 97, 163, 150, 23, 122, 156, 180, 16, 255, 97, 242, 0, 21, 173] := by
  rw [sha_one [97, 98, 99] kwAbc ⟨3128432319, 2399260650, 1094795486, 1571693091, 2953011619, 2518121116, 3021012833, 4060091821⟩ (by decide) kwAbc_eq (by decide +kernel)]; decide +kernel
theorem crc_nine : crc [49, 50, 51, 52, 53, 54, 55, 56, 57] = 3421780262 := by decide +kernel
theorem crc_a : crc [97] = 3904355907 := by decide +kernel
theorem crc_nil : crc [] = 0 := by decide +kernel
end Go.Proofs.YtefobboakikpbaaDoor
