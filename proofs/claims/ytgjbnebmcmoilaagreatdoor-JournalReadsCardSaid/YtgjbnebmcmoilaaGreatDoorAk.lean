/- The evaluator over this program: its tables. -/
import Derived.Test.YtgjbnebmcmoilaaGreatDoorAxi
import Derived.Test.YtgjbnebmcmoilaaGreatDoorProg
set_option linter.unusedVariables false
set_option linter.unusedSimpArgs false
namespace Go.Proofs.YtgjbnebmcmoilaaGreatDoor
open Go.RowKit

noncomputable def gtypes : Ax.Tr Ax.TI := Ax.tysOf Tryz.prog 1000
theorem gtypes_ok (t : TypeId) (ti : Ax.TI) (h : gtypes.get t = some ti) : Ax.TyOk Tryz.prog t ti := by
  unfold gtypes at h
  exact Ax.tysOf_ok h
noncomputable def gfuncs : Ax.Tr Func := Ax.funsOf Tryz.prog
theorem gfuncs_ok (f : FuncId) (fn : Func) (h : gfuncs.get f = some fn) : Tryz.prog.funcs[f]? = some fn := by
  unfold gfuncs at h
  exact Ax.funsOf_ok h
/-- crc's table -/
def crcTab : List Value := [.int .u32 0, .int .u32 1996959894, .int .u32 3993919788, .int .u32 2567524794, .int .u32 124634137, .int .u32 1886057615, .int .u32 3915621685, .int .u32 2657392035, .int .u32 249268274, .int .u32 2044508324, .int .u32 3772115230, .int .u32 2547177864, .int .u32 162941995, .int .u32 2125561021, .int .u32 3887607047, .int .u32 2428444049, .int .u32 498536548, .int .u32 1789927666, .int .u32 4089016648, .int .u32 2227061214, .int .u32 450548861, .int .u32 1843258603, .int .u32 4107580753, .int .u32 2211677639, .int .u32 325883990, .int .u32 1684777152, .int .u32 4251122042, .int .u32 2321926636, .int .u32 335633487, .int .u32 1661365465, .int .u32 4195302755, .int .u32 2366115317, .int .u32 997073096, .int .u32 1281953886, .int .u32 3579855332, .int .u32 2724688242, .int .u32 1006888145, .int .u32 1258607687, .int .u32 3524101629, .int .u32 2768942443, .int .u32 901097722, .int .u32 1119000684, .int .u32 3686517206, .int .u32 2898065728, .int .u32 853044451, .int .u32 1172266101, .int .u32 3705015759, .int .u32 2882616665, .int .u32 651767980, .int .u32 1373503546, .int .u32 3369554304, .int .u32 3218104598, .int .u32 565507253, .int .u32 1454621731, .int .u32 3485111705, .int .u32 3099436303, .int .u32 671266974, .int .u32 1594198024, .int .u32 3322730930, .int .u32 2970347812, .int .u32 795835527, .int .u32 1483230225, .int .u32 3244367275, .int .u32 3060149565, .int .u32 1994146192, .int .u32 31158534, .int .u32 2563907772, .int .u32 4023717930, .int .u32 1907459465, .int .u32 112637215, .int .u32 2680153253, .int .u32 3904427059, .int .u32 2013776290, .int .u32 251722036, .int .u32 2517215374, .int .u32 3775830040, .int .u32 2137656763, .int .u32 141376813, .int .u32 2439277719, .int .u32 3865271297, .int .u32 1802195444, .int .u32 476864866, .int .u32 2238001368, .int .u32 4066508878, .int .u32 1812370925, .int .u32 453092731, .int .u32 2181625025, .int .u32 4111451223, .int .u32 1706088902, .int .u32 314042704, .int .u32 2344532202, .int .u32 4240017532, .int .u32 1658658271, .int .u32 366619977, .int .u32 2362670323, .int .u32 4224994405, .int .u32 1303535960, .int .u32 984961486, .int .u32 2747007092, .int .u32 3569037538, .int .u32 1256170817, .int .u32 1037604311, .int .u32 2765210733, .int .u32 3554079995, .int .u32 1131014506, .int .u32 879679996, .int .u32 2909243462, .int .u32 3663771856, .int .u32 1141124467, .int .u32 855842277, .int .u32 2852801631, .int .u32 3708648649, .int .u32 1342533948, .int .u32 654459306, .int .u32 3188396048, .int .u32 3373015174, .int .u32 1466479909, .int .u32 544179635, .int .u32 3110523913, .int .u32 3462522015, .int .u32 1591671054, .int .u32 702138776, .int .u32 2966460450, .int .u32 3352799412, .int .u32 1504918807, .int .u32 783551873, .int .u32 3082640443, .int .u32 3233442989, .int .u32 3988292384, .int .u32 2596254646, .int .u32 62317068, .int .u32 1957810842, .int .u32 3939845945, .int .u32 2647816111, .int .u32 81470997, .int .u32 1943803523, .int .u32 3814918930, .int .u32 2489596804, .int .u32 225274430, .int .u32 2053790376, .int .u32 3826175755, .int .u32 2466906013, .int .u32 167816743, .int .u32 2097651377, .int .u32 4027552580, .int .u32 2265490386, .int .u32 503444072, .int .u32 1762050814, .int .u32 4150417245, .int .u32 2154129355, .int .u32 426522225, .int .u32 1852507879, .int .u32 4275313526, .int .u32 2312317920, .int .u32 282753626, .int .u32 1742555852, .int .u32 4189708143, .int .u32 2394877945, .int .u32 397917763, .int .u32 1622183637, .int .u32 3604390888, .int .u32 2714866558, .int .u32 953729732, .int .u32 1340076626, .int .u32 3518719985, .int .u32 2797360999, .int .u32 1068828381, .int .u32 1219638859, .int .u32 3624741850, .int .u32 2936675148, .int .u32 906185462, .int .u32 1090812512, .int .u32 3747672003, .int .u32 2825379669, .int .u32 829329135, .int .u32 1181335161, .int .u32 3412177804, .int .u32 3160834842, .int .u32 628085408, .int .u32 1382605366, .int .u32 3423369109, .int .u32 3138078467, .int .u32 570562233, .int .u32 1426400815, .int .u32 3317316542, .int .u32 2998733608, .int .u32 733239954, .int .u32 1555261956, .int .u32 3268935591, .int .u32 3050360625, .int .u32 752459403, .int .u32 1541320221, .int .u32 2607071920, .int .u32 3965973030, .int .u32 1969922972, .int .u32 40735498, .int .u32 2617837225, .int .u32 3943577151, .int .u32 1913087877, .int .u32 83908371, .int .u32 2512341634, .int .u32 3803740692, .int .u32 2075208622, .int .u32 213261112, .int .u32 2463272603, .int .u32 3855990285, .int .u32 2094854071, .int .u32 198958881, .int .u32 2262029012, .int .u32 4057260610, .int .u32 1759359992, .int .u32 534414190, .int .u32 2176718541, .int .u32 4139329115, .int .u32 1873836001, .int .u32 414664567, .int .u32 2282248934, .int .u32 4279200368, .int .u32 1711684554, .int .u32 285281116, .int .u32 2405801727, .int .u32 4167216745, .int .u32 1634467795, .int .u32 376229701, .int .u32 2685067896, .int .u32 3608007406, .int .u32 1308918612, .int .u32 956543938, .int .u32 2808555105, .int .u32 3495958263, .int .u32 1231636301, .int .u32 1047427035, .int .u32 2932959818, .int .u32 3654703836, .int .u32 1088359270, .int .u32 936918000, .int .u32 2847714899, .int .u32 3736837829, .int .u32 1202900863, .int .u32 817233897, .int .u32 3183342108, .int .u32 3401237130, .int .u32 1404277552, .int .u32 615818150, .int .u32 3134207493, .int .u32 3453421203, .int .u32 1423857449, .int .u32 601450431, .int .u32 3009837614, .int .u32 3294710456, .int .u32 1567103746, .int .u32 711928724, .int .u32 3020668471, .int .u32 3272380065, .int .u32 1510334235, .int .u32 755167117]
noncomputable def gv : Ax.Gv := { types := gtypes, funcs := gfuncs, exts := .nil, libs := Ax.Tr.nil.set 57 (.contains 1), sums := (Ax.Tr.nil.set 59 (.fresh crcTab)), dfs := (Ax.Tr.nil.set 245 0), memos := .nil, base := 1000, ng := Tryz.prog.globals.size }
/-- without what is known: for crc's table itself -/
noncomputable def gvb : Ax.Gv := { types := gtypes, funcs := gfuncs, exts := .nil, libs := .nil, sums := .nil, dfs := .nil, memos := .nil, base := 1000, ng := Tryz.prog.globals.size }
theorem gv_types : Ax.TypesOk Tryz.prog gv := by
  intro t ti h
  unfold gv at h
  dsimp only at h
  exact gtypes_ok t ti h
theorem gv_ng : 1 < gv.ng := by
  have h : Nat.blt 1 gv.ng = true := by kernel_rfl
  simpa using h
theorem gv_ng1000 : gv.ng ≤ 1000 := by
  have h : Nat.ble gv.ng 1000 = true := by kernel_rfl
  simpa using h
def vars (m : Int) : List (Nat × List Value) := [
  (2, [.int .u32 2166136261, .int .u32 16777619]),
  (0, [.string ⟨⟨[]⟩⟩, .string ⟨⟨[]⟩⟩, .string ⟨⟨[97, 100, 100]⟩⟩, .string ⟨⟨[107, 113, 105]⟩⟩, .string ⟨⟨[115, 101, 116]⟩⟩, .string ⟨⟨[107, 113, 105]⟩⟩, .string ⟨⟨[114, 101, 109, 111, 118, 101]⟩⟩, .string ⟨⟨[107, 105]⟩⟩, .string ⟨⟨[103, 101, 116]⟩⟩, .string ⟨⟨[107]⟩⟩, .string ⟨⟨[99, 108, 101, 97, 114]⟩⟩, .string ⟨⟨[107]⟩⟩, .string ⟨⟨[119, 105, 115, 104]⟩⟩, .string ⟨⟨[107, 111, 105]⟩⟩, .string ⟨⟨[108, 111, 103, 105, 110]⟩⟩, .string ⟨⟨[107, 111]⟩⟩, .string ⟨⟨[100, 101, 108, 105, 118, 101, 114]⟩⟩, .string ⟨⟨[100]⟩⟩, .string ⟨⟨[109, 101, 114, 103, 101]⟩⟩, .string ⟨⟨[]⟩⟩, .string ⟨⟨[100, 114, 97, 105, 110]⟩⟩, .string ⟨⟨[]⟩⟩, .string ⟨⟨[99, 108, 111, 115, 101]⟩⟩, .string ⟨⟨[]⟩⟩]),
  (1, [.int .i64 m])]
def vars0 (m : Int) : List (Nat × List Value) := [
  (2, [.int .u32 2166136261, .int .u32 16777619]),
  (1, [.int .i64 m])]
noncomputable def st1 (m : Int) : Ax.St := { h := Ax.h0Of (vars m), nx := 1000 }
noncomputable def st0 (m : Int) : Ax.St := { h := Ax.h0Of (vars0 m), nx := 1000 }
theorem vars_lt {m : Int} : ∀ p ∈ vars m, p.1 < gv.ng := by
  have h : ((vars m).all fun p => Nat.blt p.1 gv.ng) = true := by kernel_rfl
  intro p hp
  simpa using List.all_eq_true.1 h p hp
theorem vars0_lt {m : Int} : ∀ p ∈ vars0 m, p.1 < gv.ng := by
  have h : ((vars0 m).all fun p => Nat.blt p.1 gv.ng) = true := by kernel_rfl
  intro p hp
  simpa using List.all_eq_true.1 h p hp
end Go.Proofs.YtgjbnebmcmoilaaGreatDoor
