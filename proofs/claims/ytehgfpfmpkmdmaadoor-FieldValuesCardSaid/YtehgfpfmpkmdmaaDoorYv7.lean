-- WZeros (what this claim uses of them)
import Derived.Test.YtehgfpfmpkmdmaaDoorYv5
import Derived.Test.YtehgfpfmpkmdmaaDoorYv6
